/- rlp.decode of a list. -/
import Derived.Test.YtkdpphcalekbdaaG6
import Derived.Test.YtkdpphcalekbdaaF2
set_option linter.unusedVariables false
set_option linter.unusedSimpArgs false
namespace Go.Proofs.Ytkdpphcalekbdaa.G7
open Go.ChangeShapes Go.WideShapes Go.ChangeAt Go.RowKit
open M F1 W1 G5 F2
set_option maxRecDepth 100000 in
set_option maxHeartbeats 1000000 in
theorem dec_deep (dp : Int) (hdp : 64 ≤ dp) (lo hi : Nat) (v : Value) (bs : List UInt8) (w : World) (hb : Bs w lo hi v bs) (hhi : hi ≤ w.heap.size) (hn : bs.length ≤ 1073741824) (f t : Nat) (hh : hd bs = .ok (1, f, t)) :
  Calls Try.prog 48 #[v, .int .i64 dp] w fun e w' => Below w.heap.size w w' ∧ e = .returned (.tuple #[.agg #[.int .i64 0, .slice none 0 0, .slice none 0 0], .int .i64 0, .int .i64 44]) := by
  obtain ⟨_, hft, htl, ht1, _⟩ := hd_ok hh
  have HH : Hid (∀ W, Below w.heap.size w W → Calls Try.prog 23 #[v] W fun e w' => e = .returned (.tuple #[.agg #[.int .i64 1, .int .i64 (f : Int), .int .i64 (t : Int)], .int .i64 0]) ∧ Below W.heap.size W w') := fun W hW => by
    have := head23_any lo hi v bs W (hb.keep (Same.of_below hW hhi)) (Nat.le_trans hhi hW.size) (by omega)
    rw [hh] at this
    exact this
  clear hh
  obtain ⟨A, c, rfl, h1, h2, hR⟩ := hb
  obtain ⟨A', hcut, hBp⟩ := cut_mid h1 h2 hR f t hft htl
  clear hR hBp
  go_enter Try.func48, Try.ntmps48
  go_wp2
  go_step3
  go_wp2_with (first
    | (go_at_call 23; refine (HH.out _ (by go_grown)).mono ?_
       rintro e w1 ⟨rfl, hbl⟩
       have hx := (hbl.block w.heap.size (by rw [size_alloc]; omega)).trans (show _ = some (Obj.cells #[.int .i64 0, .slice none 0 0, .slice none 0 0] 27 (0, 0)) by rw [heap_alloc, if_pos rfl])
       obtain ⟨y0, y1, y2, y3⟩ := block_cells hx
       have hz : w.heap.size < w1.heap.size := Nat.lt_of_lt_of_le (by rw [size_alloc]; omega) hbl.size
       have hz1 : w.heap.size < w1.heap.size + 1 := by omega
       have HB1 : Hid (Below w.heap.size w w1) := ((Below.refl _ w).alloc (Nat.le_refl _) _).trans (hbl.mono (by rw [size_alloc]; omega))
       clear hbl hx))
  rw [Exit.noGoto_ret]
  refine bodyPost_ret (v := .tuple #[.agg #[.int .i64 0, .slice none 0 0, .slice none 0 0], .int .i64 0, .int .i64 44]) (by simp [results, Try.results48, go_sem, y0, y1, y2, hz, hz1]) rfl ?_
  refine ⟨?_, rfl⟩
  have hB1 := HB1.out
  first
    | exact (((hB1.setCell (Nat.le_refl _) _).setCell (Nat.le_refl _) _).setCell (Nat.le_refl _) _).alloc (by simp [World.setCell]; omega) _
    | exact ((((hB1.alloc hB1.size _).setCell (Nat.le_refl _) _).setCell (Nat.le_refl _) _).setCell (Nat.le_refl _) _)
theorem cut_tail {w : World} {lo hi : Nat} {A : Option Addr} {c : Nat} {bs : List UInt8} (h : Bs w lo hi (.slice A bs.length c) bs) (m : Nat) (hm : m ≤ bs.length) :
    ∃ A' : Option Addr, (∀ W : World, (Instr.slice 23 (.slice A bs.length c) (some (.int .i64 (m : Int))) none none).run Try.prog W = .ok (.slice A' (bs.length - m) (c - m)) W) ∧ Bs w lo hi (.slice A' (bs.length - m) (c - m)) (bs.drop m) := by
  obtain ⟨A0, c0, e, h1, h2, hR⟩ := h
  injection e with e1 e2 e3
  subst e1; subst e3
  obtain ⟨A', hcut, hrest⟩ := cut_slice (P := Try.prog) 23 5 1 Try.underlying23 info5s A bs.length c m m rfl hm
  refine ⟨A', hcut, A', c - m, by rw [List.length_drop], by rw [List.length_drop]; omega, by omega, ?_⟩
  rw [List.length_drop]
  have := hrest w lo hi (nums bs) h1 hR
  rw [Nat.mul_one] at this
  simpa [nums, List.map_drop] using this
set_option maxRecDepth 100000 in
set_option maxHeartbeats 1000000 in
theorem dec_list (d : Nat) (dp : Int) (hd0 : 0 ≤ dp) (hdp : dp < 64) (hrec : DecSpec d (dp + 1)) (lo hi : Nat) (v : Value) (bs : List UInt8) (w : World) (hb : Bs w lo hi v bs) (hhi : hi ≤ w.heap.size) (hn : bs.length ≤ 1073741824) (f t : Nat) (hh : hd bs = .ok (1, f, t))
  (r : Except Nat (List It)) (hr : r = dkids (decF d) ((bs.take t).drop f).length ((bs.take t).drop f)) :
  Calls Try.prog 48 #[v, .int .i64 dp] w fun e w' => Below w.heap.size w w' ∧
    ((∃ er : Nat, er ≠ 0 ∧ r = .error er ∧ e = .returned (.tuple #[.agg #[.int .i64 0, .slice none 0 0, .slice none 0 0], .int .i64 0, .int .i64 (er : Int)])) ∨
     (∃ ks d0 d1 d2, r = .ok ks ∧ e = .returned (.tuple #[.agg #[d0, d1, d2], .int .i64 (t : Int), .int .i64 0]) ∧ ItemR w' (Btw w.heap.size w'.heap.size) (.mk 1 [] ks) [d0, d1, d2])) := by
  obtain ⟨_, hft, htl, ht1, _⟩ := hd_ok hh
  have HH : Hid (∀ W, Below w.heap.size w W → Calls Try.prog 23 #[v] W fun e w' => e = .returned (.tuple #[.agg #[.int .i64 1, .int .i64 (f : Int), .int .i64 (t : Int)], .int .i64 0]) ∧ Below W.heap.size W w') := fun W hW => by
    have := head23_any lo hi v bs W (hb.keep (Same.of_below hW hhi)) (Nat.le_trans hhi hW.size) (by omega)
    rw [hh] at this
    exact this
  clear hh
  obtain ⟨A, c, rfl, h1, h2, hR⟩ := hb
  obtain ⟨A', hcut, hBp⟩ := cut_mid h1 h2 hR f t hft htl
  have hpl : ((bs.take t).drop f).length = t - f := by rw [List.length_drop, List.length_take]; omega
  have HBP := Lib.hid hBp
  have HPL := Lib.hid hpl
  have HR := Lib.hid hr
  have HREC := Lib.hid hrec
  clear hR hBp hpl hr hrec
  go_enter Try.func48, Try.ntmps48
  go_wp2
  go_step3
  go_wp2_with (first
    | (go_at_call 23; refine (HH.out _ (by go_grown)).mono ?_
       rintro e w1 ⟨rfl, hbl⟩
       have hx := (hbl.block w.heap.size (by rw [size_alloc]; omega)).trans (show _ = some (Obj.cells #[.int .i64 0, .slice none 0 0, .slice none 0 0] 27 (0, 0)) by rw [heap_alloc, if_pos rfl])
       have hz : w.heap.size < w1.heap.size := Nat.lt_of_lt_of_le (by rw [size_alloc]; omega) hbl.size
       have HB1 : Hid (Below w.heap.size w w1) := ((Below.refl _ w).alloc (Nat.le_refl _) _).trans (hbl.mono (by rw [size_alloc]; omega))
       have HX := Lib.hid hx
       clear hbl hx))
  go_step3
  go_wp2_with fail
  obtain ⟨g, hg⟩ : ∃ g, g = w1.heap.size + 1 := ⟨_, rfl⟩
  obtain ⟨wc, hwc⟩ : ∃ wc, wc = (w1.alloc (.cells #[.int .i64 1, .int .i64 (f : Int), .int .i64 (t : Int)] 51)).alloc (.cells #[.int .i64 1, .slice none 0 0, .slice none 0 0] 27) := ⟨_, rfl⟩
  rw [← hg, ← hwc]
  have HB0 : Hid (Below w.heap.size w wc) := Lib.hid (by rw [hwc]; exact (HB1.out.alloc HB1.out.size _).alloc (Nat.le_trans HB1.out.size (by rw [size_alloc]; omega)) _)
  have Hx0 : Hid (wc.heap[w.heap.size]? = some (.cells #[.int .i64 0, .slice none 0 0, .slice none 0 0] 27 (0, 0))) := Lib.hid (by rw [hwc, heap_alloc, if_neg (by rw [size_alloc]; omega), heap_alloc, if_neg (by omega)]; exact HX.out)
  have Hy0 : Hid (wc.heap[w1.heap.size]? = some (.cells #[.int .i64 1, .int .i64 (f : Int), .int .i64 (t : Int)] 51 (0, 0))) := Lib.hid (by rw [hwc, heap_alloc, if_neg (by rw [size_alloc]; omega), heap_alloc, if_pos rfl])
  have Hkb0 : Hid (Kb (w1.heap.size + 1) wc g 1 (.slice none 0 0) (.slice none 0 0) [] []) := Lib.hid (by rw [hwc, hg]; exact Kb.start _ _ _ _ _ _ (by rw [heap_alloc, if_pos (by rw [size_alloc])]) (Nat.le_refl _) ⟨none, 0, rfl, by simp, by omega, rfl, fun h => absurd h (by simp)⟩)
  have hg1 : w.heap.size < g := by omega
  have hg2 : w1.heap.size < g := by omega
  clear hwc hg
  go_loopw [9] (fun v9 wr => ∃ (p : List UInt8) (Ap : Option Addr) (cp ff : Nat) (ks : List It) (kv : Value), v9 = .slice Ap p.length cp ∧ Bs w lo hi (.slice Ap p.length cp) p ∧ Below w.heap.size w wr ∧ wr.heap[w.heap.size]? = some (.cells #[.int .i64 0, .slice none 0 0, .slice none 0 0] 27 (0, 0)) ∧ wr.heap[w1.heap.size]? = some (.cells #[.int .i64 1, .int .i64 (f : Int), .int .i64 (t : Int)] 51 (0, 0)) ∧ Kb (w1.heap.size + 1) wr g 1 (.slice none 0 0) kv [] ks ∧ p.length ≤ ff ∧ p.length + ks.length ≤ 1073741824 ∧
    r = (match dkids (decF d) ff p with | .error e => .error e | .ok ks' => .ok (ks ++ ks'))) (fun v9 _ => slen v9)
  case atStart => exact ⟨(bs.take t).drop f, A', c - f, t - f, [], _, by rw [HPL.out], by rw [HPL.out]; exact HBP.out, HB0.out, Hx0.out, Hy0.out, Hkb0.out, by rw [HPL.out]; exact Nat.le_refl _, by rw [HPL.out]; simp; omega, by rw [HR.out, HPL.out]; cases dkids (decF d) (t - f) ((bs.take t).drop f) <;> simp⟩
  case round =>
    obtain ⟨p, Ap, cp, ff, ks, kv, rfl, hp, hB, hx, hy, hkb, hff, hbd, hres⟩ := hrel
    obtain ⟨x0, x1, x2, x3⟩ := block_cells hx
    obtain ⟨y0, y1, y2, y3⟩ := block_cells hy
    obtain ⟨_, ⟨Ak, ck, rfl⟩⟩ := kb_shape hkb
    obtain ⟨g0, g1, g2, g3⟩ := hkb.cells
    have HB := Lib.hid hB
    have Hx := Lib.hid hx
    have Hy := Lib.hid hy
    have Hkb := Lib.hid hkb
    have Hp := Lib.hid hp
    have Hres := Lib.hid hres
    have hgl := hkb.lt
    have hgw1 : w.heap.size ≠ g := by omega
    have hgw2 : g ≠ w.heap.size := by omega
    have hgw3 : g ≠ w1.heap.size := by omega
    clear hB hx hy hkb hp hres
    by_cases h0 : p.length = 0
    · obtain rfl : p = [] := List.eq_nil_of_length_eq_zero h0
      go_wp2_with fail
      have HK : Hid (∀ W : World, (W.heap[w1.heap.size]? = some (.cells #[.int .i64 1, .int .i64 (f : Int), .int .i64 (t : Int)] 51 (0, 0)) ∧ W.heap[g]? = some (.cells #[.int .i64 1, .slice none 0 0, .slice Ak ks.length ck] 27 (0, 0))) → W.cell? ⟨w1.heap.size, 2, none⟩ = some (.int .i64 (t : Int)) ∧ W.cell? ⟨g, 0, none⟩ = some (.int .i64 1) ∧ W.cell? ⟨g, 1, none⟩ = some (.slice none 0 0) ∧ W.cell? ⟨g, 2, none⟩ = some (.slice Ak ks.length ck)) := fun W hW => ⟨(block_cells hW.1).2.2.1, (block_cells hW.2).1, (block_cells hW.2).2.1, (block_cells hW.2).2.2.1⟩
      have hne : w.heap.size ≠ w1.heap.size := by omega
      have Hg := Lib.hid Hkb.out.hg
      go_region_held3 (fun w' => w'.cell? ⟨w1.heap.size, 2, none⟩ = some (.int .i64 (t : Int)) ∧ w'.cell? ⟨g, 0, none⟩ = some (.int .i64 1) ∧ w'.cell? ⟨g, 1, none⟩ = some (.slice none 0 0) ∧ w'.cell? ⟨g, 2, none⟩ = some (.slice Ak ks.length ck)) ((refine HK.out _ ?_; first | (with_reducible exact ⟨(heap_set _ _ _ _ _ hne).trans ((heap_set _ _ _ _ _ hne).trans ((heap_set _ _ _ _ _ hne).trans Hy.out)), (heap_set _ _ _ _ _ hgw1).trans ((heap_set _ _ _ _ _ hgw1).trans ((heap_set _ _ _ _ _ hgw1).trans Hg.out))⟩) | exact ⟨Hy.out, Hg.out⟩ | (exact ⟨(heap_set _ _ _ _ _ hne).trans ((heap_set _ _ _ _ _ hne).trans ((heap_set _ _ _ _ _ hne).trans Hy.out)), (heap_set _ _ _ _ _ hgw1).trans ((heap_set _ _ _ _ _ hgw1).trans ((heap_set _ _ _ _ _ hgw1).trans Hg.out))⟩))) (fail)
      go_wp2_with fail
      rw [Exit.noGoto_ret]
      refine bodyPost_ret (v := .tuple #[.agg #[.int .i64 1, .slice none 0 0, .slice Ak ks.length ck], .int .i64 (t : Int), .int .i64 0]) (by simp [results, Try.results48, go_sem, x0, x1, x2]) rfl ?_
      have hB := HB.out
      refine ⟨?_, .inr ⟨ks, _, _, _, ?_, rfl, ItemR.wide (fun b hb => ⟨by have := hb.1; omega, by simpa [World.setCell] using hb.2⟩) _ _ (ItemR.keep (fun b hb => ?_) _ _ Hkb.out.item)⟩⟩
      · exact ((hB.drew.setCell (Nat.le_refl _) _).setCell (Nat.le_refl _) _).setCell (Nat.le_refl _) _
      · rw [Hres.out, dkids_done]; simp
      · have hb1 : w.heap.size ≠ b := by have := hb.1; omega
        exact (heap_set _ _ _ _ _ hb1).trans ((heap_set _ _ _ _ _ hb1).trans ((heap_set _ _ _ _ _ hb1).trans rfl))
    · have hpi : ¬ (p.length : Int) = 0 := by omega
      obtain ⟨ff, rfl⟩ : ∃ ff', ff = ff' + 1 := ⟨ff - 1, by omega⟩
      have hstep := dkids_step (decF d) ff p (by omega)
      have HC : Hid (∀ W, Below wr.heap.size wr W → Calls Try.prog 48 #[.slice Ap p.length cp, .int .i64 (dp + 1)] W fun e w' => Below W.heap.size W w' ∧
        ((∃ er : Nat, er ≠ 0 ∧ decF d p = .error er ∧ e = .returned (.tuple #[.agg #[.int .i64 0, .slice none 0 0, .slice none 0 0], .int .i64 0, .int .i64 (er : Int)])) ∨
         (∃ x t d0 d1 d2, decF d p = .ok (x, t) ∧ e = .returned (.tuple #[.agg #[d0, d1, d2], .int .i64 (t : Int), .int .i64 0]) ∧ ItemR w' (Btw W.heap.size w'.heap.size) x [d0, d1, d2]))) := fun W hW =>
        HREC.out lo hi _ p W (Hp.out.keep (Same.of_below (HB.out.trans (hW.mono HB.out.size)) hhi)) (Nat.le_trans hhi (HB.out.trans (hW.mono HB.out.size)).size) (by omega)
      cases hdk : decF d p with
      | error er =>
        have HE : Hid (∀ W, Below wr.heap.size wr W → Calls Try.prog 48 #[.slice Ap p.length cp, .int .i64 (dp + 1)] W fun e w' => Below W.heap.size W w' ∧ er ≠ 0 ∧ e = .returned (.tuple #[.agg #[.int .i64 0, .slice none 0 0, .slice none 0 0], .int .i64 0, .int .i64 (er : Int)])) := fun W hW => (HC.out W hW).mono fun e w' ⟨h1, h2⟩ => by
          rcases h2 with ⟨er', a1, a2, a3⟩ | ⟨x, t, d0, d1, d2, a1, _⟩
          · rw [hdk] at a2; injection a2 with a2; subst a2; exact ⟨h1, a1, a3⟩
          · rw [hdk] at a1; cases a1
        have Hr : Hid (r = .error er) := by rw [Hres.out, hstep, hdk]; exact Lib.hid rfl
        clear HC hstep hdk
        go_wp2_with (first
          | (go_at_call 48; refine (HE.out _ (by go_grown)).mono ?_
             rintro e w2 ⟨hbl, her, rfl⟩
             have heri : ¬ (er : Int) = 0 := by omega
             have hx2 := (hbl.block w.heap.size (by omega)).trans Hx.out
             obtain ⟨z0, z1, z2, z3⟩ := block_cells hx2
             have hz4 : w.heap.size < w2.heap.size := Nat.lt_of_lt_of_le (by omega) hbl.size
             have hz5 : w.heap.size < w2.heap.size + 1 := by omega
             have HBL := Lib.hid hbl
             clear hbl hx2))
        rw [Exit.noGoto_ret]
        refine bodyPost_ret (v := .tuple #[.agg #[.int .i64 0, .slice none 0 0, .slice none 0 0], .int .i64 0, .int .i64 (er : Int)]) (by simp [results, Try.results48, go_sem, z0, z1, z2, hz4, hz5]) rfl ?_
        have her : er ≠ 0 := fun h => heri (by omega)
        have hB := HB.out.trans (HBL.out.mono HB.out.size)
        refine ⟨?_, .inl ⟨er, her, Hr.out, rfl⟩⟩
        first
          | exact (((hB.setCell (Nat.le_refl _) _).setCell (Nat.le_refl _) _).setCell (Nat.le_refl _) _).alloc (by simp [World.setCell]; omega) _
          | exact ((((hB.alloc hB.size _).setCell (Nat.le_refl _) _).setCell (Nat.le_refl _) _).setCell (Nat.le_refl _) _)
      | ok q =>
        obtain ⟨x, m⟩ := q
        obtain ⟨hm1, hm2, hmb⟩ := decF_ok d p x m hdk
        obtain ⟨A2, hcut2, hp2⟩ := cut_tail Hp.out m hm2
        have HP2 := Lib.hid hp2
        have HE : Hid (∀ W, Below wr.heap.size wr W → Calls Try.prog 48 #[.slice Ap p.length cp, .int .i64 (dp + 1)] W fun e w' => Below W.heap.size W w' ∧ ∃ d0 d1 d2, e = .returned (.tuple #[.agg #[d0, d1, d2], .int .i64 (m : Int), .int .i64 0]) ∧ ItemR w' (Btw W.heap.size w'.heap.size) x [d0, d1, d2]) := fun W hW => (HC.out W hW).mono fun e w' ⟨h1, h2⟩ => by
          rcases h2 with ⟨er', a1, a2, a3⟩ | ⟨x', t', d0, d1, d2, a1, a2, a3⟩
          · rw [hdk] at a2; cases a2
          · rw [hdk] at a1; injection a1 with a1; injection a1 with b1 b2; subst b1; subst b2; exact ⟨h1, d0, d1, d2, a2, a3⟩
        have Hr : Hid (r = (match dkids (decF d) ff (p.drop m) with | .error e => .error e | .ok ks' => .ok ((ks ++ [x]) ++ ks'))) := Lib.hid (by
          rw [Hres.out, hstep, hdk]
          simp only
          cases dkids (decF d) ff (p.drop m) <;> simp)
        clear HC hstep hdk hp2
        obtain ⟨inr, Ho, Hkk⟩ := Hkb.out.row rfl
        have HO := Lib.hid Ho
        have HKD := Lib.hid Hkk
        have hks : ks.length ≤ 1073741824 := by omega
        have HKS := Lib.hid hks
        have N3 : Hid ((Value.slice Ak ks.length ck).ownBlock ≠ some g) := Hkb.out.ne
        have N0 : Hid ((Value.slice Ak ks.length ck).ownBlock ≠ some w.heap.size) := fun h => by have := (Ho.lt _ h).1; omega
        have N1 : Hid ((Value.slice Ak ks.length ck).ownBlock ≠ some w1.heap.size) := fun h => by have := (Ho.lt _ h).1; omega
        clear Ho Hkk hks
        go_wp2_with (first
          | (go_at_call 48; refine (HE.out _ (by go_grown)).mono ?_
             rintro e w2 ⟨hbl, d0, d1, d2, rfl, hit⟩
             obtain ⟨⟨fl, rfl⟩, ⟨fA, fn, fc, rfl⟩, ⟨fB, fm, fd, rfl⟩⟩ := item_shape hit
             have q4 := (hbl.cell (p := ⟨g, 2, none⟩) hgl).trans g2
             have q5 := (hbl.frozen (p := ⟨g, 2, none⟩) hgl).trans g3
             have hbz := hbl.size
             have hltg : g < w2.heap.size := Nat.lt_of_lt_of_le hgl hbz
             have hltg1 : g < w2.heap.size + 1 := by omega
             have hne1 : g ≠ w2.heap.size := Nat.ne_of_lt hltg
             have hne2 : w2.heap.size ≠ g := fun e => hne1 e.symm
             have q6 : (w2.alloc (.cells #[.int .i64 fl, .slice fA fn fc, .slice fB fm fd] 27)).cell? ⟨g, 2, none⟩ = some (.slice Ak ks.length ck) := by simp [go_sem, hltg, q4]
             have HIT := Lib.hid hit
             have HBL := Lib.hid hbl
             clear hit hbl)
          | (at_builtin
             refine wp_append rfl (.tmp 56) (.tmp 58) 25 27 (.agg #[.int .i64 0, .slice none 0 0, .slice none 0 0]) 3 56 rfl Try.underlying25 info27 rfl (by omega) (w1.heap.size + 1) 0 (w2.heap.size + 1 + 1) _ ks.length inr (some ⟨w2.heap.size + 1, 0, none⟩) 1 1 [.int .i64 fl, .slice fA fn fc, .slice fB fm fd] rfl rfl (own_keep HO.out fun b hb => ?_) (new3R _ _ _ _ _ _ (by rw [size_alloc])) (by intro u hu; simp at hu; rcases hu with rfl | rfl | rfl <;> rfl) (by have := HKS.out; simp only [maxLen]; omega) (by have := HKS.out; omega) (by simp only [size_alloc]; omega) ?_
             · exact (Below.heap_alloc _ _ _ (by have := (HO.out.lt b hb).2; rw [size_alloc]; omega)).trans ((Below.heap_alloc _ _ _ (by have := (HO.out.lt b hb).2; omega)).trans (HBL.out.block b (HO.out.lt b hb).2))
             intro kv' w3 hown2 hgrow2 hat2
             obtain ⟨Akn, ckn, rfl⟩ := own_shape hown2
             have p4 := grown_cells hgrow2 (show g < _ by rw [size_alloc]; omega) N3.out (show _ = some (Value.slice Ak ks.length ck) from q6)
             have p5 := grown_frozen hgrow2 (show g < _ by rw [size_alloc]; omega) N3.out (show World.frozen? (w2.alloc (.cells #[.int .i64 fl, .slice fA fn fc, .slice fB fm fd] 27)) ⟨g, 2, none⟩ = false by simp [go_sem, hltg, q5])
             have HOWN := Lib.hid hown2
             have HGROW := Lib.hid hgrow2
             have HAT := Lib.hid hat2
             clear hown2 hgrow2 hat2))
        have hBk : Below wr.heap.size wr (w2.alloc (.cells #[.int .i64 fl, .slice fA fn fc, .slice fB fm fd] 27)) := HBL.out.alloc HBL.out.size _
        have hz1 := HBL.out.size
        have Hrr := HB.out.size
        have hxl : w1.heap.size < wr.heap.size := by omega
        have hB1 : Below w.heap.size w w2 := HB.out.trans (HBL.out.mono Hrr)
        have hpd : (p.drop m).length = p.length - m := List.length_drop
        have hpe : Bs w lo hi (.slice A2 (p.drop m).length (cp - m)) (p.drop m) := by rw [hpd]; exact HP2.out
        refine ⟨⟨p.drop m, A2, cp - m, ff, ks ++ [x], .slice Akn (ks.length + 1) ckn, by rw [hpd], hpe, ?_, ?_, ?_, ?_, by omega, by rw [hpd, List.length_append, List.length_singleton]; omega, Hr.out⟩, ?_⟩
        · exact (((hB1.alloc hB1.size _).alloc (by rw [size_alloc]; omega) _).grown HGROW.out (by simp only [size_alloc]; omega) (fun b hb => Nat.le_trans (by omega) (HO.out.lt b hb).1)).setCell (by show w.heap.size ≤ g; omega) _
        · exact (heap_set _ _ _ _ _ hgw2).trans (grown_block HGROW.out (by rw [size_alloc]; omega) N0.out ((Below.heap_alloc _ _ _ (by omega)).trans ((HBL.out.block _ (by omega)).trans Hx.out)))
        · exact (heap_set _ _ _ _ _ hgw3).trans (grown_block HGROW.out (by rw [size_alloc]; omega) N1.out ((Below.heap_alloc _ _ _ (by omega)).trans ((HBL.out.block _ (by omega)).trans Hy.out)))
        · refine Hkb.out.append hBk (ItemR.wide (fun b hb => ⟨hb.1, by rw [size_alloc]; have := hb.2; omega⟩) _ _ (ItemR.keep (fun b hb => Below.heap_alloc _ _ _ hb.2) _ _ HIT.out)) (own_keep HO.out fun b hb => hBk.block b (HO.out.lt b hb).2) HOWN.out _ HGROW.out HAT.out ?_
          have hf : ∀ b, Free (w1.heap.size + 1) wr g (.slice Ak ks.length ck) b → Free (w1.heap.size + 1) (w2.alloc (.cells #[.int .i64 fl, .slice fA fn fc, .slice fB fm fd] 27)) g (.slice Ak ks.length ck) b := fun b ⟨h1, h2, h3, h4⟩ => ⟨h1, Nat.lt_of_lt_of_le h2 hBk.size, h3, h4⟩
          exact KidsR.wide hf _ _ (KidsR.keep (fun b hb' => hBk.block b hb'.2.1) _ _ HKD.out)
        · simp only [slen]; omega
theorem decF_list {d : Nat} {bs : List UInt8} {f t : Nat} (hh : hd bs = .ok (1, f, t)) : decF (d + 1) bs = match dkids (decF d) ((bs.take t).drop f).length ((bs.take t).drop f) with
    | .error e => .error e
    | .ok ks => .ok (.mk 1 [] ks, t) := by
  rw [decF, hh]
  simp only
  rw [if_neg (by decide)]
  cases dkids (decF d) ((bs.take t).drop f).length ((bs.take t).drop f) <;> rfl
/-- decode is decF. -/
theorem decode48 : ∀ (d : Nat), d ≤ 64 → DecSpec d ((64 : Int) - d) := by
  intro d
  induction d with
  | zero =>
    intro _ lo hi v bs w hb hhi hn
    cases hh : hd bs with
    | error er =>
      exact (dec_err 0 _ lo hi v bs w hb hhi hn er hh).mono fun e w' ⟨h1, h2⟩ => ⟨h1, .inl ⟨er, by rcases hd_err hh with h | h <;> omega, by rw [decF, hh], h2⟩⟩
    | ok q =>
      obtain ⟨l, f, t⟩ := q
      obtain ⟨hl, _⟩ := hd_ok hh
      by_cases h0 : l = 0
      · subst h0
        exact (G6.dec_text _ lo hi v bs w hb hhi hn f t hh).mono fun e w' ⟨h1, d1, h2, h3⟩ => ⟨h1, .inr ⟨_, t, _, d1, _, by rw [decF, hh]; simp, h2, h3⟩⟩
      · obtain rfl : l = 1 := by omega
        exact (dec_deep _ (by omega) lo hi v bs w hb hhi hn f t hh).mono fun e w' ⟨h1, h2⟩ => ⟨h1, .inl ⟨44, by omega, by rw [decF, hh]; simp, h2⟩⟩
  | succ d ih =>
    intro hd64 lo hi v bs w hb hhi hn
    cases hh : hd bs with
    | error er =>
      exact (dec_err 0 _ lo hi v bs w hb hhi hn er hh).mono fun e w' ⟨h1, h2⟩ => ⟨h1, .inl ⟨er, by rcases hd_err hh with h | h <;> omega, by rw [decF, hh], h2⟩⟩
    | ok q =>
      obtain ⟨l, f, t⟩ := q
      obtain ⟨hl, _⟩ := hd_ok hh
      by_cases h0 : l = 0
      · subst h0
        exact (G6.dec_text _ lo hi v bs w hb hhi hn f t hh).mono fun e w' ⟨h1, d1, h2, h3⟩ => ⟨h1, .inr ⟨_, t, _, d1, _, by rw [decF, hh]; simp, h2, h3⟩⟩
      · obtain rfl : l = 1 := by omega
        have e : (64 : Int) - ((d + 1 : Nat) : Int) + 1 = 64 - (d : Int) := by omega
        refine (dec_list d _ (by omega) (by omega) (by rw [e]; exact ih (by omega)) lo hi v bs w hb hhi hn f t hh _ rfl).mono fun e w' ⟨h1, h2⟩ => ⟨h1, ?_⟩
        rcases h2 with ⟨er, a1, a2, a3⟩ | ⟨ks, d0, d1, d2, a1, a2, a3⟩
        · exact .inl ⟨er, a1, by rw [decF_list hh, a2], a3⟩
        · exact .inr ⟨_, t, d0, d1, d2, by rw [decF_list hh, a1], a2, a3⟩
end Go.Proofs.Ytkdpphcalekbdaa.G7
