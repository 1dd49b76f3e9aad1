/- rlp's twin. -/
import Derived.Deep.RegionLaw
import Derived.Test.YtkdpphcalekbdaaF1
set_option linter.unusedVariables false
set_option linter.unusedSimpArgs false
namespace Go.Proofs.Ytkdpphcalekbdaa.G3
open Go.ChangeShapes Go.WideShapes Go.ChangeAt Go.RowKit
open M F1
set_option maxRecDepth 100000 in
set_option maxHeartbeats 1000000 in
theorem twin62 (x : It) : F1.Twin 62 x := by
  refine It.ind ?_ x
  intro l bs ks ih S c0 c1 c2 w hx hS hbulk
  simp only [ItemR] at hx
  obtain ⟨v, A, c, inner, e, hb, h1, h2, hr, hk⟩ := hx
  simp only [List.cons.injEq, and_true] at e
  obtain ⟨rfl, rfl, rfl⟩ := e
  obtain ⟨Ab, cb, rfl, hb1, hb2, hbR⟩ := hb
  have HbBs : Hid (∀ W' : World, Below w.heap.size w W' → Bs W' 0 w.heap.size (.slice Ab bs.length cb) bs) := fun W' hB => Bs.keep ⟨Ab, cb, rfl, hb1, hb2, hbR.toRd fun b hb => ⟨Nat.zero_le _, hS b hb⟩⟩ (Same.of_below hB (Nat.le_refl _))
  have Hr := Lib.hid hr
  have Hk := Lib.hid hk
  have HS := Lib.hid hS
  have Hih := Lib.hid ih
  have Hbulk := Lib.hid hbulk
  clear hbR hr hk hS ih hbulk
  go_enter Try.func62, Try.ntmps62
  go_wp2_with fail
  go_upto_region 1 with fail
  go_cut [3] (fun s3 wx => ∃ (g : Nat) (bv : Value), s3 = .pointer (some ⟨g, 0, none⟩) ∧ Below w.heap.size w wx ∧ wx.heap[w.heap.size]? = some (.cells #[.int .i64 l, .slice Ab bs.length cb, .slice A ks.length c] 27 (0, 0)) ∧ wx.heap[w.heap.size + 1]? = some (.cells #[.int .i64 0, .slice none 0 0, .slice none 0 0] 27 (0, 0)) ∧ Kb (w.heap.size + 2) wx g l bv (.slice none 0 0) bs [])
  case first =>
    go_region_held3 (fun w' => w'.cell? ⟨w.heap.size, 0, none⟩ = some (.int .i64 l) ∧ w'.cell? ⟨w.heap.size, 1, none⟩ = some (.slice Ab bs.length cb)) (first | go_keep | (simp only [go_sem] at *; simp [go_sem, q0, q1]; done) | (simp [go_sem, q0, q1]; done))
      (first
        | (go_at_call 58; refine (clone58 0 w.heap.size _ bs _ (HbBs.out _ (by go_grown)) (by simp; omega) (by have := Hbulk.out; simp only [bulk] at this; omega)).mono ?_; rintro e w' ⟨bv, rfl, ho, hbl⟩; obtain ⟨Ab', cb', rfl, hbb1, hbb2, hbbR⟩ := ho.bs; obtain ⟨hcc, hff⟩ := bcell hbl; have q0 := (hbl.cell (p := ⟨w.heap.size, 0, none⟩) (by simp; omega)).trans (show _ = some (Value.int .i64 l) by simp [go_sem]); have q1 := (hbl.cell (p := ⟨w.heap.size, 1, none⟩) (by simp; omega)).trans (show _ = some (Value.slice Ab bs.length cb) by simp [go_sem])))
    all_goals go_wp2_with fail
    all_goals go_meet
    all_goals have hB2 : Below w.heap.size w w' := Below.trans (by go_grown) (hbl.mono (by simp only [size_alloc, heap_drew]; omega))
    all_goals have p0 := (hbl.block w.heap.size (by simp only [size_alloc, heap_drew]; omega)).trans (show _ = some (Obj.cells #[.int .i64 l, .slice Ab bs.length cb, .slice A ks.length c] 27 (0, 0)) by (simp only [heap_alloc, heap_drew, size_alloc]; repeat (first | rw [if_pos trivial] | rw [if_pos (by omega)] | rw [if_neg (by omega)])))
    all_goals have p1 := (hbl.block (w.heap.size + 1) (by simp only [size_alloc, heap_drew]; omega)).trans (show _ = some (Obj.cells #[.int .i64 0, .slice none 0 0, .slice none 0 0] 27 (0, 0)) by (simp only [heap_alloc, heap_drew, size_alloc]; repeat (first | rw [if_pos trivial] | rw [if_pos (by omega)] | rw [if_neg (by omega)])))
    all_goals have pz := hbl.size
    all_goals simp only [size_alloc, heap_drew] at pz
    any_goals
      refine ⟨_, _, rfl, ?_, ?_, ?_, kb_after w' _ l _ bs (ho.bs.wide (by simp [size_alloc, heap_drew]) (Nat.le_refl _)) ?_⟩
      · go_grown
        all_goals exact hB2
      · rw [heap_alloc, if_neg (by omega), p0]
      · rw [heap_alloc, if_neg (by omega), p1]
      · omega
    any_goals
      refine ⟨_, _, rfl, ?_, ?_, ?_, kb_ahead w' _ _ l _ bs (ho.bs.wide (by simp [size_alloc, heap_drew]) (Nat.le_refl _)) ?_ ?_⟩
      · go_grown
        all_goals exact hB2
      · simp (disch := omega) only [heap_set]; exact p0
      · simp (disch := omega) only [heap_set]; exact p1
      · omega
      · refine (hbl.block (w.heap.size + 2) (by simp only [size_alloc, heap_drew]; omega)).trans ?_
        simp only [heap_alloc, heap_drew, size_alloc]; repeat (first | rw [if_pos trivial] | rw [if_pos (by omega)] | rw [if_neg (by omega)])
  case rest =>
    obtain ⟨g, bv, rfl, hB0, hx0, hy0, hkb0⟩ := hcut
    have HB0 := Lib.hid hB0
    have Hx0 := Lib.hid hx0
    have Hy0 := Lib.hid hy0
    have Hkb0 := Lib.hid hkb0
    clear hB0 hx0 hy0 hkb0 HbBs
    have r2 : wc.cell? ⟨w.heap.size, 2, none⟩ = some (.slice A ks.length c) := (block_cells Hx0.out).2.2.1
    go_wp2_with fail
    go_loopw [15] (fun i wr => ∃ (k : Nat) (kv : Value), k ≤ ks.length ∧ i = .int .i64 k ∧ Below w.heap.size w wr ∧ wr.heap[w.heap.size]? = some (.cells #[.int .i64 l, .slice Ab bs.length cb, .slice A ks.length c] 27 (0, 0)) ∧ wr.heap[w.heap.size + 1]? = some (.cells #[.int .i64 0, .slice none 0 0, .slice none 0 0] 27 (0, 0)) ∧ Kb (w.heap.size + 2) wr g l bv kv bs (ks.take k)) (fun i _ => ks.length - (intOf i).toNat)
    case atStart => exact ⟨0, _, by omega, rfl, HB0.out, Hx0.out, Hy0.out, by simpa using Hkb0.out⟩
    case round =>
      obtain ⟨k, kv, hk, rfl, hB, hx, hy, hkb⟩ := hrel
      clear r2
      obtain ⟨g0, g1, g2, g3⟩ := hkb.cells
      obtain ⟨y0, y1, y2, y3⟩ := block_cells hy
      have hlen : (ks.take k).length = k := by rw [List.length_take]; omega
      obtain ⟨⟨Ab2, cb2, rfl⟩, ⟨Ak, ck, rfl⟩⟩ := kb_shape hkb
      rw [hlen] at g2 hkb
      have HB := Lib.hid hB
      have Hx := Lib.hid hx
      have Hy := Lib.hid hy
      have Hkb := Lib.hid hkb
      clear hB hx hy hkb
      by_cases hlt : k < ks.length
      · obtain ⟨ga, offa, rfl, hSa, hcell⟩ := Hr.out.2 (by omega)
        obtain ⟨d0, d1, d2, hd0, hd1, hd2, hit⟩ := Hk.out.at_ k hlt
        have hga := HS.out ga hSa
        have e0 := (HB.out.cell (p := ⟨ga, offa + 3 * k, none⟩) hga).trans (hcell _ _ hd0)
        have e1 := (HB.out.cell (p := ⟨ga, offa + (3 * k + 1), none⟩) hga).trans (hcell _ _ hd1)
        have e2 := (HB.out.cell (p := ⟨ga, offa + (3 * k + 2), none⟩) hga).trans (hcell _ _ hd2)
        obtain ⟨⟨xl, rfl⟩, ⟨xA, xn, xc, rfl⟩, ⟨xB, xm, xd, rfl⟩⟩ := item_shape hit
        have Hhit := Lib.hid hit
        clear hcell hd0 hd1 hd2 hit
        have Hgw : g ≠ w.heap.size := by have := Hkb.out.hb; omega
        have hgw2 : w.heap.size ≠ g := fun e => Hgw e.symm
        have hgw3 : g ≠ ga := by have := Hkb.out.hb; omega
        have hgw4 : ga ≠ g := fun e => hgw3 e.symm
        have hgw5 : g ≠ w.heap.size + 1 := by have := Hkb.out.hb; omega
        have Hrr := HB.out.size
        have Hgl := Hkb.out.lt
        have Hy9 := (Array.getElem?_eq_some_iff.1 Hy.out).1
        obtain ⟨inr, Ho, Hkk⟩ := Hkb.out.row hlen
        have Hol := fun b h => (Ho.lt b h).1
        have n0 : (Value.slice Ak k ck).ownBlock ≠ some w.heap.size := fun h => by have := Hol _ h; omega
        have n1 : (Value.slice Ak k ck).ownBlock ≠ some (w.heap.size + 1) := fun h => by have := Hol _ h; omega
        have n2 : (Value.slice Ak k ck).ownBlock ≠ some ga := fun h => by have := Hol _ h; omega
        have n3 : (Value.slice Ak k ck).ownBlock ≠ some g := Hkb.out.ne
        have N0 := Lib.hid n0
        have N1 := Lib.hid n1
        have N2 := Lib.hid n2
        have N3 := Lib.hid n3
        have HO := Lib.hid Ho
        have HKK := Lib.hid Hkk
        clear n0 n1 n2 n3 Ho Hkk Hol
        obtain ⟨i27, hi27, hz27, hs27, hby27⟩ := ty27
        have HI := Lib.hid hi27
        have HZ := Lib.hid hz27
        have HS27 := Lib.hid hs27
        have HBY := Lib.hid hby27
        clear hi27 hz27 hs27 hby27
        have hks : ks.length ≤ 1073741824 := by have a1 := Hbulk.out; have := bulks_length ks; simp only [bulk] at a1; omega
        have HBK : Hid (bulk (ks[k]'hlt) ≤ 1073741824) := by have a1 := Hbulk.out; have := bulks_mem (List.getElem_mem hlt); simp only [bulk] at a1; exact (by omega : bulk (ks[k]'hlt) ≤ 1073741824)
        have HKS := Lib.hid hks
        have A2 : Hid (k + 1 ≤ maxLen) := (show _ ≤ _ from by simp only [maxLen]; omega)
        have A3 : Hid ((k + 1) * 56 ≤ 140737488355328) := (show _ ≤ _ from by omega)
        clear hks
        have K1 : Hid (∀ W : World, W.heap = (wr.alloc (.cells #[.int .i64 xl, .slice xA xn xc, .slice xB xm xd] 27)).heap → ItemR W S (ks[k]'hlt) [.int .i64 xl, .slice xA xn xc, .slice xB xm xd]) := fun W hW => ItemR.keep (fun b hb => by rw [hW, Below.heap_alloc _ _ _ (Nat.lt_of_lt_of_le (HS.out b hb) Hrr)]; exact HB.out.block b (HS.out b hb)) _ _ Hhit.out
        have K2 : Hid (∀ W : World, W.heap = (wr.alloc (.cells #[.int .i64 xl, .slice xA xn xc, .slice xB xm xd] 27)).heap → ∀ b, S b → b < W.heap.size) := fun W hW b hb => by rw [hW, size_alloc]; exact Nat.lt_of_lt_of_le (HS.out b hb) (Nat.le_succ_of_le Hrr)
        have HK : Hid (∀ W : World, W.heap[wr.heap.size]? = some (.cells #[.int .i64 xl, .slice xA xn xc, .slice xB xm xd] 27 (0, 0)) → W.cell? ⟨wr.heap.size, 0, none⟩ = some (.int .i64 xl) ∧ W.cell? ⟨wr.heap.size, 1, none⟩ = some (.slice xA xn xc) ∧ W.cell? ⟨wr.heap.size, 2, none⟩ = some (.slice xB xm xd)) := fun W hW => ⟨(block_cells hW).1, (block_cells hW).2.1, (block_cells hW).2.2.1⟩
        have hgk : g ≠ wr.heap.size := Nat.ne_of_lt Hgl
        have N4 : Hid ((Value.slice Ak k ck).ownBlock ≠ some wr.heap.size) := fun h => by have := (HO.out.lt _ h).2; omega
        have g2' : (wr.alloc (.cells #[.int .i64 xl, .slice xA xn xc, .slice xB xm xd] 27)).cell? ⟨g, 2, none⟩ = some (.slice Ak k ck) := by simp [go_sem, Hgl, g2]
        have g3' : (wr.alloc (.cells #[.int .i64 xl, .slice xA xn xc, .slice xB xm xd] 27)).frozen? ⟨g, 2, none⟩ = false := by simp [go_sem, Hgl, g3]
        rw [show 3 * k = k * 3 from Nat.mul_comm _ _, ← Nat.add_assoc] at e1 e2
        rw [show 3 * k = k * 3 from Nat.mul_comm _ _] at e0
        go_wp2_with fail
        go_region_law
          (first
            | (go_simp; go_at_call 62; refine (Hih.out (ks[k]'hlt) (List.getElem_mem hlt) S _ _ _ _ (K1.out _ (by rfl)) (K2.out _ (by rfl)) HBK.out).mono ?_
               rintro e w1 ⟨f0, f1, f2, rfl, hit0, hbl0⟩
               have hbl1 := undrew hbl0
               have hbl : Below wr.heap.size wr w1 := ((Below.refl _ wr).alloc (Nat.le_refl _) _).trans (hbl1.mono (by show _ ≤ (wr.alloc _).heap.size; rw [size_alloc]; omega))
               have hit1 := ItemR.wide (S' := Btw wr.heap.size w1.heap.size) (fun b hb => ⟨Nat.le_trans (by show _ ≤ (wr.alloc _).heap.size; rw [size_alloc]; omega) hb.1, hb.2⟩) _ _ hit0
               obtain ⟨⟨fl, rfl⟩, ⟨fA, fn, fc, rfl⟩, ⟨fB, fm, fd, rfl⟩⟩ := item_shape hit1
               have q4 := (hbl.cell (p := ⟨g, 2, none⟩) (by show g < wr.heap.size; omega)).trans g2
               have q5 := (hbl.frozen (p := ⟨g, 2, none⟩) (by show g < wr.heap.size; omega)).trans g3
               have X2 : Hid (w1.heap[wr.heap.size]? = some (.cells #[.int .i64 xl, .slice xA xn xc, .slice xB xm xd] 27 (0, 0))) := (hbl1.block wr.heap.size (by show _ < (wr.alloc _).heap.size; rw [size_alloc]; omega)).trans (by rw [heap_alloc, if_pos rfl])
               have hwk : wr.heap.size < w1.heap.size := Nat.lt_of_lt_of_le (by show _ < (wr.alloc _).heap.size; rw [size_alloc]; omega) hbl1.size
               have hbz := hbl.size
               have hltg : g < w1.heap.size := Nat.lt_of_lt_of_le Hgl hbz
               have hne1 : g ≠ w1.heap.size := Nat.ne_of_lt hltg
               have hne2 : w1.heap.size ≠ g := fun e => hne1 e.symm
               have q6 : (w1.alloc (.cells #[.int .i64 fl, .slice fA fn fc, .slice fB fm fd] 27)).cell? ⟨g, 2, none⟩ = some (.slice Ak k ck) := by simp [go_sem, hltg, q4]
               have HIT := Lib.hid hit1
               have HBL := Lib.hid hbl
               have A1 : Hid (∀ u ∈ [Value.int .i64 fl, Value.slice fA fn fc, Value.slice fB fm fd], u.oneCell' = true) := fun u hu => by
                 rcases List.mem_cons.1 hu with rfl | hu
                 · rfl
                 rcases List.mem_cons.1 hu with rfl | hu
                 · rfl
                 rcases List.mem_cons.1 hu with rfl | hu
                 · rfl
                 cases hu
               have A4 : Hid (w.heap.size + 2 ≤ (w1.alloc (.cells #[.int .i64 fl, .slice fA fn fc, .slice fB fm fd] 27)).heap.size) := (show _ ≤ _ from by rw [size_alloc]; have h9 : wr.heap.size ≤ w1.heap.size := hbz; omega)
               clear hit1 hbl hit0 hbl0 hbl1)
            | (refine step_append_lies _ rfl (.tmp 20) (.tmp 23) 25 rfl (w.heap.size + 2) 27 i27 _ 3 56 Try.underlying25 HI.out HZ.out HS27.out HBY.out rfl (Nat.succ_pos _) (.slice Ak k ck) k inr rfl (own_keep HO.out fun b hb => (Below.heap_alloc _ _ _ (Nat.lt_of_lt_of_le (HO.out.lt b hb).2 HBL.out.size)).trans (HBL.out.block b (HO.out.lt b hb).2)) ⟨w1.heap.size, 0, none⟩ 1 1 [.int .i64 fl, .slice fA fn fc, .slice fB fm fd] rfl rfl (new3 w1 _ _ _ _) A1.out (Nat.le_refl _) A2.out A3.out A4.out _ rfl ?_
               intro gn cap w2 hown2 hgrow2 hat2 hlt2
               have p4 := grown_cells hgrow2 (by omega) N3.out q4
               have p5 := grown_frozen hgrow2 (by omega) N3.out q5
               have X4 : Hid (w2.heap[wr.heap.size]? = some (.cells #[.int .i64 xl, .slice xA xn xc, .slice xB xm xd] 27 (0, 0))) := grown_block hgrow2 hwk N4.out X2.out
               have HOWN := Lib.hid hown2
               have HGROW := Lib.hid hgrow2
               have HAT := Lib.hid hat2
               clear hown2 hgrow2 hat2))
        all_goals
          go_wp2_with fail
          go_roundw
          case measure => simp [intOf]; omega
          case rel =>
            have z1 : wr.heap.size ≤ w1.heap.size := hbz
            have b1 : Below w.heap.size w w1 := HB.out.trans (Below.mono HBL.out Hrr)
            refine ⟨k + 1, .slice (some ⟨gn, 0, none⟩) (k + 1) cap, by omega, by go_num, ?_, ?_, ?_, ?_⟩
            · exact ((b1.alloc (Nat.le_trans Hrr z1) _).grown HGROW.out (by rw [size_alloc]; omega) (fun b hb => by have := (HO.out.lt b hb).1; omega)).setCell (by show w.heap.size ≤ g; have := Hkb.out.hb; omega) _
            · refine (heap_set _ _ _ _ _ Hgw).trans (grown_block HGROW.out (by omega) N0.out ?_)
              exact (HBL.out.block w.heap.size (by show w.heap.size < wr.heap.size; omega)).trans Hx.out
            · refine (heap_set _ _ _ _ _ hgw5).trans (grown_block HGROW.out (by omega) N1.out ?_)
              exact (HBL.out.block (w.heap.size + 1) (by show w.heap.size + 1 < wr.heap.size; omega)).trans Hy.out
            · rw [show ks.take (k + 1) = ks.take k ++ [ks[k]'hlt] from (List.take_append_getElem hlt).symm]
              exact Hkb.out.grow HBL.out HIT.out hlen HO.out HKK.out HOWN.out HGROW.out HAT.out
      · obtain rfl : k = ks.length := by omega
        go_wp2_with fail
        have hgw5 : w.heap.size + 1 ≠ g := by have := Hkb.out.hb; omega
        refine bodyPost_ret (v := .agg #[.int .i64 l, .slice Ab2 bs.length cb2, .slice Ak ks.length ck]) (by simp [results, Try.results62, go_sem, y0, y1, y2]) rfl ?_
        have hz := HB.out.size
        have Hy9 := (Array.getElem?_eq_some_iff.1 Hy.out).1
        have ht : ks.take ks.length = ks := List.take_length
        have hI := Hkb.out.item
        rw [ht] at hI
        refine ⟨_, _, _, rfl, ItemR.wide (fun b hb => ⟨by have := hb.1; omega, by simpa [World.setCell] using hb.2⟩) _ _ (ItemR.keep (fun b hb => ?_) _ _ hI), ?_⟩
        · have hb1 : w.heap.size + 1 ≠ b := by have := hb.1; omega
          simp (disch := exact hb1) only [heap_set]
        · exact ((HB.out.setCell (by show _ ≤ w.heap.size + 1; omega) _).setCell (by show _ ≤ w.heap.size + 1; omega) _).setCell (by show _ ≤ w.heap.size + 1; omega) _
end Go.Proofs.Ytkdpphcalekbdaa.G3
