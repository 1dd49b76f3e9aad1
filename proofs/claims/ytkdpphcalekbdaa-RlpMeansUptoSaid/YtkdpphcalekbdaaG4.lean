/- rlp.List: the items twinned. -/
import Derived.Deep.RegionLaw
import Derived.Test.YtkdpphcalekbdaaG3
set_option linter.unusedVariables false
set_option linter.unusedSimpArgs false
namespace Go.Proofs.Ytkdpphcalekbdaa.G4
open Go.ChangeShapes Go.WideShapes Go.ChangeAt Go.RowKit
open M F1
theorem below_two (w : World) (a b : Obj) : Below w.heap.size w ((w.alloc a).alloc b) := ((Below.refl _ w).alloc (Nat.le_refl _) _).alloc (by rw [size_alloc]; omega) _
theorem two_first (w : World) (a b : Obj) : ((w.alloc a).alloc b).heap[w.heap.size]? = some a := by
  rw [heap_alloc, if_neg (by rw [size_alloc]; omega), heap_alloc, if_pos rfl]
theorem kb_list (w : World) (o : Obj) : Kb (w.heap.size + 1) ((w.alloc o).alloc (.cells #[.int .i64 1, .slice none 0 0, .slice none 0 0] 27)) (w.heap.size + 1) 1 (.slice none 0 0) (.slice none 0 0) [] [] :=
  Kb.start _ _ _ _ _ _ (by rw [heap_alloc, if_pos (by rw [size_alloc])]) (Nat.le_refl _) ⟨none, 0, rfl, by simp, by omega, rfl, fun h => absurd h (by simp)⟩
set_option maxRecDepth 100000 in
set_option maxHeartbeats 1000000 in
theorem list43 (S : Nat → Prop) (A : Option Addr) (c : Nat) (ks : List It) (inner : List Value) (w : World) (h1 : ks.length ≤ c) (h2 : c ≤ 9223372036854775807) (hr : RdS w S 3 A ks.length inner) (hk : KidsR w S ks inner) (hS : ∀ b, S b → b < w.heap.size) (hbulk : bulks ks ≤ 1073741824) :
    Calls Try.prog 43 #[.slice A ks.length c] w fun e w' => ∃ d0 d1 d2, e = .returned (.agg #[d0, d1, d2]) ∧ ItemR w' (Btw w.heap.size w'.heap.size) (.mk 1 [] ks) [d0, d1, d2] ∧ Below w.heap.size w w' := by
  have Hr := Lib.hid hr
  have Hk := Lib.hid hk
  have HS := Lib.hid hS
  have Hbulk := Lib.hid hbulk
  clear hr hk hS hbulk
  go_enter Try.func43, Try.ntmps43
  go_wp2_with fail
  obtain ⟨g, hg⟩ : ∃ g, g = w.heap.size + 1 := ⟨_, rfl⟩
  obtain ⟨wc, hwc⟩ : ∃ wc, wc = (w.alloc (.cells #[.int .i64 0, .slice none 0 0, .slice none 0 0] 27)).alloc (.cells #[.int .i64 1, .slice none 0 0, .slice none 0 0] 27) := ⟨_, rfl⟩
  rw [← hg, ← hwc]
  have HB0 : Hid (Below w.heap.size w wc) := Lib.hid (by rw [hwc]; exact below_two w _ _)
  have Hy0 : Hid (wc.heap[w.heap.size]? = some (.cells #[.int .i64 0, .slice none 0 0, .slice none 0 0] 27 (0, 0))) := Lib.hid (by rw [hwc]; exact two_first w _ _)
  have Hkb0 : Hid (Kb (w.heap.size + 1) wc g 1 (.slice none 0 0) (.slice none 0 0) [] []) := Lib.hid (by rw [hwc, hg]; exact kb_list w _)
  clear hwc hg
  go_wp2_with fail
  go_loopw [9] (fun i wr => ∃ (k : Nat) (kv : Value), k ≤ ks.length ∧ i = .int .i64 k ∧ Below w.heap.size w wr ∧ wr.heap[w.heap.size]? = some (.cells #[.int .i64 0, .slice none 0 0, .slice none 0 0] 27 (0, 0)) ∧ Kb (w.heap.size + 1) wr g 1 (.slice none 0 0) kv [] (ks.take k)) (fun i _ => ks.length - (intOf i).toNat)
  case atStart => exact ⟨0, _, by omega, rfl, HB0.out, Hy0.out, by simpa using Hkb0.out⟩
  case round =>
    obtain ⟨k, kv, hk, rfl, hB, hy, hkb⟩ := hrel
    obtain ⟨g0, g1, g2, g3⟩ := hkb.cells
    obtain ⟨y0, y1, y2, y3⟩ := block_cells hy
    have hlen : (ks.take k).length = k := by rw [List.length_take]; omega
    obtain ⟨_, ⟨Ak, ck, rfl⟩⟩ := kb_shape hkb
    rw [hlen] at g2 hkb
    have HB := Lib.hid hB
    have Hy := Lib.hid hy
    have Hkb := Lib.hid hkb
    clear hB hy hkb
    by_cases hlt : k < ks.length
    · obtain ⟨ga, offa, rfl, hSa, hcell⟩ := Hr.out.2 (by omega)
      obtain ⟨d0, d1, d2, hd0, hd1, hd2, hit⟩ := Hk.out.at_ k hlt
      have hga := HS.out ga hSa
      have e0 := (HB.out.cell (p := ⟨ga, offa + 3 * k, none⟩) hga).trans (hcell _ _ hd0)
      have e1 := (HB.out.cell (p := ⟨ga, offa + (3 * k + 1), none⟩) hga).trans (hcell _ _ hd1)
      have e2 := (HB.out.cell (p := ⟨ga, offa + (3 * k + 2), none⟩) hga).trans (hcell _ _ hd2)
      obtain ⟨⟨xl, rfl⟩, ⟨xA, xn, xc, rfl⟩, ⟨xB, xm, xd, rfl⟩⟩ := item_shape hit
      have Hhit := Lib.hid hit
      clear hcell hd0 hd1 hd2 hit
      have Hgw : g ≠ w.heap.size := by have := Hkb.out.hb; omega
      have hgw2 : w.heap.size ≠ g := fun e => Hgw e.symm
      have hgw3 : g ≠ ga := by have := Hkb.out.hb; omega
      have hgw4 : ga ≠ g := fun e => hgw3 e.symm
      have Hrr := HB.out.size
      have Hgl := Hkb.out.lt
      have Hy9 := (Array.getElem?_eq_some_iff.1 Hy.out).1
      obtain ⟨inr, Ho, Hkk⟩ := Hkb.out.row hlen
      have Hol := fun b h => (Ho.lt b h).1
      have n0 : (Value.slice Ak k ck).ownBlock ≠ some w.heap.size := fun h => by have := Hol _ h; omega
      have n2 : (Value.slice Ak k ck).ownBlock ≠ some ga := fun h => by have := Hol _ h; omega
      have n3 : (Value.slice Ak k ck).ownBlock ≠ some g := Hkb.out.ne
      have N0 := Lib.hid n0
      have N2 := Lib.hid n2
      have N3 := Lib.hid n3
      have HO := Lib.hid Ho
      have HKK := Lib.hid Hkk
      clear n0 n2 n3 Ho Hkk Hol
      obtain ⟨i27, hi27, hz27, hs27, hby27⟩ := ty27
      have HI := Lib.hid hi27
      have HZ := Lib.hid hz27
      have HS27 := Lib.hid hs27
      have HBY := Lib.hid hby27
      clear hi27 hz27 hs27 hby27
      have hks : ks.length ≤ 1073741824 := by have a1 := Hbulk.out; have := bulks_length ks; omega
      have HBK : Hid (bulk (ks[k]'hlt) ≤ 1073741824) := by have a1 := Hbulk.out; have := bulks_mem (List.getElem_mem hlt); exact (by omega : bulk (ks[k]'hlt) ≤ 1073741824)
      have HKS := Lib.hid hks
      have A2 : Hid (k + 1 ≤ maxLen) := (show _ ≤ _ from by simp only [maxLen]; omega)
      have A3 : Hid ((k + 1) * 56 ≤ 140737488355328) := (show _ ≤ _ from by omega)
      clear hks
      have K1 : Hid (∀ W : World, W.heap = (wr.alloc (.cells #[.int .i64 xl, .slice xA xn xc, .slice xB xm xd] 27)).heap → ItemR W S (ks[k]'hlt) [.int .i64 xl, .slice xA xn xc, .slice xB xm xd]) := fun W hW => ItemR.keep (fun b hb => by rw [hW, Below.heap_alloc _ _ _ (Nat.lt_of_lt_of_le (HS.out b hb) Hrr)]; exact HB.out.block b (HS.out b hb)) _ _ Hhit.out
      have K2 : Hid (∀ W : World, W.heap = (wr.alloc (.cells #[.int .i64 xl, .slice xA xn xc, .slice xB xm xd] 27)).heap → ∀ b, S b → b < W.heap.size) := fun W hW b hb => by rw [hW, size_alloc]; exact Nat.lt_of_lt_of_le (HS.out b hb) (Nat.le_succ_of_le Hrr)
      have HK : Hid (∀ W : World, W.heap[wr.heap.size]? = some (.cells #[.int .i64 xl, .slice xA xn xc, .slice xB xm xd] 27 (0, 0)) → W.cell? ⟨wr.heap.size, 0, none⟩ = some (.int .i64 xl) ∧ W.cell? ⟨wr.heap.size, 1, none⟩ = some (.slice xA xn xc) ∧ W.cell? ⟨wr.heap.size, 2, none⟩ = some (.slice xB xm xd)) := fun W hW => ⟨(block_cells hW).1, (block_cells hW).2.1, (block_cells hW).2.2.1⟩
      have hgk : g ≠ wr.heap.size := Nat.ne_of_lt Hgl
      have N4 : Hid ((Value.slice Ak k ck).ownBlock ≠ some wr.heap.size) := fun h => by have := (HO.out.lt _ h).2; omega
      have g2' : (wr.alloc (.cells #[.int .i64 xl, .slice xA xn xc, .slice xB xm xd] 27)).cell? ⟨g, 2, none⟩ = some (.slice Ak k ck) := by simp [go_sem, Hgl, g2]
      have g3' : (wr.alloc (.cells #[.int .i64 xl, .slice xA xn xc, .slice xB xm xd] 27)).frozen? ⟨g, 2, none⟩ = false := by simp [go_sem, Hgl, g3]
      rw [show 3 * k = k * 3 from Nat.mul_comm _ _, ← Nat.add_assoc] at e1 e2
      rw [show 3 * k = k * 3 from Nat.mul_comm _ _] at e0
      go_wp2_with fail
      go_region_law
        (first
          | (go_simp; go_at_call 62; refine (G3.twin62 (ks[k]'hlt) S _ _ _ _ (K1.out _ (by rfl)) (K2.out _ (by rfl)) HBK.out).mono ?_
             rintro e w1 ⟨f0, f1, f2, rfl, hit0, hbl0⟩
             have hbl1 := undrew hbl0
             have hbl : Below wr.heap.size wr w1 := ((Below.refl _ wr).alloc (Nat.le_refl _) _).trans (hbl1.mono (by show _ ≤ (wr.alloc _).heap.size; rw [size_alloc]; omega))
             have hit1 := ItemR.wide (S' := Btw wr.heap.size w1.heap.size) (fun b hb => ⟨Nat.le_trans (by show _ ≤ (wr.alloc _).heap.size; rw [size_alloc]; omega) hb.1, hb.2⟩) _ _ hit0
             obtain ⟨⟨fl, rfl⟩, ⟨fA, fn, fc, rfl⟩, ⟨fB, fm, fd, rfl⟩⟩ := item_shape hit1
             have q4 := (hbl.cell (p := ⟨g, 2, none⟩) (by show g < wr.heap.size; omega)).trans g2
             have q5 := (hbl.frozen (p := ⟨g, 2, none⟩) (by show g < wr.heap.size; omega)).trans g3
             have X2 : Hid (w1.heap[wr.heap.size]? = some (.cells #[.int .i64 xl, .slice xA xn xc, .slice xB xm xd] 27 (0, 0))) := (hbl1.block wr.heap.size (by show _ < (wr.alloc _).heap.size; rw [size_alloc]; omega)).trans (by rw [heap_alloc, if_pos rfl])
             have hwk : wr.heap.size < w1.heap.size := Nat.lt_of_lt_of_le (by show _ < (wr.alloc _).heap.size; rw [size_alloc]; omega) hbl1.size
             have hbz := hbl.size
             have hltg : g < w1.heap.size := Nat.lt_of_lt_of_le Hgl hbz
             have hne1 : g ≠ w1.heap.size := Nat.ne_of_lt hltg
             have hne2 : w1.heap.size ≠ g := fun e => hne1 e.symm
             have q6 : (w1.alloc (.cells #[.int .i64 fl, .slice fA fn fc, .slice fB fm fd] 27)).cell? ⟨g, 2, none⟩ = some (.slice Ak k ck) := by simp [go_sem, hltg, q4]
             have HIT := Lib.hid hit1
             have HBL := Lib.hid hbl
             have A1 : Hid (∀ u ∈ [Value.int .i64 fl, Value.slice fA fn fc, Value.slice fB fm fd], u.oneCell' = true) := fun u hu => by
               rcases List.mem_cons.1 hu with rfl | hu
               · rfl
               rcases List.mem_cons.1 hu with rfl | hu
               · rfl
               rcases List.mem_cons.1 hu with rfl | hu
               · rfl
               cases hu
             have A4 : Hid (w.heap.size + 1 ≤ (w1.alloc (.cells #[.int .i64 fl, .slice fA fn fc, .slice fB fm fd] 27)).heap.size) := (show _ ≤ _ from by rw [size_alloc]; have h9 : wr.heap.size ≤ w1.heap.size := hbz; omega)
             clear hit1 hbl hit0 hbl0 hbl1)
          | (refine step_append_lies _ rfl (.tmp 14) (.tmp 17) 25 rfl (w.heap.size + 1) 27 i27 _ 3 56 Try.underlying25 HI.out HZ.out HS27.out HBY.out rfl (Nat.succ_pos _) (.slice Ak k ck) k inr rfl (own_keep HO.out fun b hb => (Below.heap_alloc _ _ _ (Nat.lt_of_lt_of_le (HO.out.lt b hb).2 HBL.out.size)).trans (HBL.out.block b (HO.out.lt b hb).2)) ⟨w1.heap.size, 0, none⟩ 1 1 [.int .i64 fl, .slice fA fn fc, .slice fB fm fd] rfl rfl (new3 w1 _ _ _ _) A1.out (Nat.le_refl _) A2.out A3.out A4.out _ rfl ?_
             intro gn cap w2 hown2 hgrow2 hat2 hlt2
             have p4 := grown_cells hgrow2 (by omega) N3.out q4
             have p5 := grown_frozen hgrow2 (by omega) N3.out q5
             have X4 : Hid (w2.heap[wr.heap.size]? = some (.cells #[.int .i64 xl, .slice xA xn xc, .slice xB xm xd] 27 (0, 0))) := grown_block hgrow2 hwk N4.out X2.out
             have HOWN := Lib.hid hown2
             have HGROW := Lib.hid hgrow2
             have HAT := Lib.hid hat2
             clear hown2 hgrow2 hat2))
      all_goals
        go_wp2_with fail
        go_roundw
        case measure => simp [intOf]; omega
        case rel =>
          have z1 : wr.heap.size ≤ w1.heap.size := hbz
          have b1 : Below w.heap.size w w1 := HB.out.trans (Below.mono HBL.out Hrr)
          refine ⟨k + 1, .slice (some ⟨gn, 0, none⟩) (k + 1) cap, by omega, by go_num, ?_, ?_, ?_⟩
          · exact ((b1.alloc (Nat.le_trans Hrr z1) _).grown HGROW.out (by rw [size_alloc]; omega) (fun b hb => by have := (HO.out.lt b hb).1; omega)).setCell (by show w.heap.size ≤ g; have := Hkb.out.hb; omega) _
          · refine (heap_set _ _ _ _ _ Hgw).trans (grown_block HGROW.out (by omega) N0.out ?_)
            exact (HBL.out.block w.heap.size (by show w.heap.size < wr.heap.size; omega)).trans Hy.out
          · rw [show ks.take (k + 1) = ks.take k ++ [ks[k]'hlt] from (List.take_append_getElem hlt).symm]
            exact Hkb.out.grow HBL.out HIT.out hlen HO.out HKK.out HOWN.out HGROW.out HAT.out
    · obtain rfl : k = ks.length := by omega
      have hgw5 : w.heap.size ≠ g := by have := Hkb.out.hb; omega
      go_wp2_with fail
      refine bodyPost_ret (v := .agg #[.int .i64 1, .slice none 0 0, .slice Ak ks.length ck]) (by simp [results, Try.results43, go_sem, y0, y1, y2]) rfl ?_
      have hz := HB.out.size
      have ht : ks.take ks.length = ks := List.take_length
      have hI := Hkb.out.item
      rw [ht] at hI
      refine ⟨_, _, _, rfl, ItemR.wide (fun b hb => ⟨by have := hb.1; omega, by simpa [World.setCell] using hb.2⟩) _ _ (ItemR.keep (fun b hb => ?_) _ _ hI), ?_⟩
      · have hb1 : w.heap.size ≠ b := by have := hb.1; omega
        simp (disch := exact hb1) only [heap_set]
      · exact ((HB.out.setCell (Nat.le_refl _) _).setCell (Nat.le_refl _) _).setCell (Nat.le_refl _) _
end Go.Proofs.Ytkdpphcalekbdaa.G4
