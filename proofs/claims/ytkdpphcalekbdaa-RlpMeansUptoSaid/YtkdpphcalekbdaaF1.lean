/- bytes, slices.Clone, and the law's twin. -/
import Derived.Deep.RegionLaw
import Derived.Test.YtkdpphcalekbdaaJ
import Derived.Test.YtkdpphcalekbdaaR
import Derived.Deep.DeepCutAuto
import Derived.Deep.RegionWith
import Derived.Deep.RegionHeld3
import Derived.Deep.AppendLies
set_option linter.unusedVariables false
set_option linter.unusedSimpArgs false
namespace Go.Proofs.Ytkdpphcalekbdaa.F1
open Go.ChangeShapes Go.WideShapes Go.ChangeAt Go.RowKit
open M
set_option maxHeartbeats 1000000 in
theorem bytes18 (lo hi : Nat) (v : Value) (bs : List UInt8) (w : World) (hb : Bs w lo hi v bs) (hhi : hi ≤ w.heap.size) (hn : bs.length ≤ 140737488355328) :
    Calls Try.prog 18 #[v] w fun e w' => ∃ v', e = .returned v' ∧ Own w' w.heap.size v' bs ∧ Below w.heap.size w w' := by
  obtain ⟨A, c, rfl, h1, h2, hR⟩ := hb
  have HR := Lib.hid (hR.keep (w' := w.alloc (.cells #[] 5)) (fun k h1 h2 => Below.heap_alloc _ _ _ (by omega)))
  have Ho := Lib.hid (own_empty w w.heap.size (Nat.le_refl _))
  clear hR
  go_enter Try.func18, Try.ntmps18
  go_wp2_with (first | (at_builtin; refine wp_append rfl (.tmp 3) (.tmp 4) 23 5 (.int .u8 0) 1 1 rfl Try.underlying23 info5 rfl (by omega) w.heap.size lo hi _ 0 _ A bs.length c (nums bs) rfl rfl Ho.out HR.out (nums_one _) (by simp only [maxLen]; omega) (by omega) (by simp) ?_; intro v' w' hown hgrow _))
  go_ret
  exact ⟨_, rfl, by simpa [Own] using hown, ((Below.refl _ _).alloc (Nat.le_refl _) _).grown hgrow (by simp) (by intro k hk; cases hk; exact Nat.le_refl _)⟩
set_option maxRecDepth 100000 in
set_option maxHeartbeats 1000000 in
theorem clone58 (lo hi : Nat) (v : Value) (bs : List UInt8) (w : World) (hb : Bs w lo hi v bs) (hhi : hi ≤ w.heap.size) (hn : bs.length ≤ 140737488355328) :
    Calls Try.prog 58 #[v] w fun e w' => ∃ v', e = .returned v' ∧ Own w' w.heap.size v' bs ∧ Below w.heap.size w w' := by
  obtain ⟨A, c, rfl, h1, h2, hR⟩ := hb
  have HR := Lib.hid (hR.keep (w' := w.alloc (.cells #[] 5)) (fun k h1 h2 => Below.heap_alloc _ _ _ (by omega)))
  have Ho := Lib.hid (own_empty w w.heap.size (Nat.le_refl _))
  have he := fun W : World => Lib.run_eql_slice_nil (P := Try.prog) W 23 5 A bs.length c 0 0 Try.underlying23
  have Hn := Lib.hid hn
  clear hn
  cases A with
  | none =>
    have h0 : bs = [] := by
      rcases Nat.eq_zero_or_pos bs.length with h | h
      · exact List.eq_nil_of_length_eq_zero h
      · obtain ⟨g, off, e, _⟩ := hR.2 h; cases e
    subst h0
    clear hR he
    have he := fun W : World => Lib.run_eql_slice_nil (P := Try.prog) W 23 5 none 0 c 0 0 Try.underlying23
    go_enter Try.func58, Try.ntmps58
    go_wp2
    go_ret
    exact ⟨_, rfl, World.ownsRow_nil _ _ _ _, Below.refl _ _⟩
  | some a =>
    clear hR
    go_enter Try.func58, Try.ntmps58
    go_wp2_with (first | (at_builtin; refine wp_append rfl (.tmp 5) (.tmp 6) 23 5 (.int .u8 0) 1 1 rfl Try.underlying23 info5 rfl (by omega) w.heap.size lo hi _ 0 _ (some a) bs.length c (nums bs) rfl rfl Ho.out HR.out (nums_one _) (by have := Hn.out; simp only [maxLen]; omega) (by have := Hn.out; omega) (by simp) ?_; intro v' w' hown hgrow _))
    go_ret
    exact ⟨_, rfl, by simpa [Own] using hown, ((Below.refl _ _).alloc (Nat.le_refl _) _).grown hgrow (by simp) (by intro k hk; cases hk; exact Nat.le_refl _)⟩

/-- What twin makes of an item. -/
def Twin (f : Nat) (x : It) : Prop := ∀ (S : Nat → Prop) (c0 c1 c2 : Value) (w : World), ItemR w S x [c0, c1, c2] → (∀ b, S b → b < w.heap.size) → bulk x ≤ 1073741824 →
  Calls Try.prog f #[.agg #[c0, c1, c2]] w fun e w' => ∃ d0 d1 d2, e = .returned (.agg #[d0, d1, d2]) ∧ ItemR w' (Btw w.heap.size w'.heap.size) x [d0, d1, d2] ∧ Below w.heap.size w w'
set_option maxRecDepth 100000 in
set_option maxHeartbeats 1000000 in
theorem twin15 (x : It) : Twin 15 x := by
  refine It.ind ?_ x
  intro l bs ks ih S c0 c1 c2 w hx hS hbulk
  simp only [ItemR] at hx
  obtain ⟨v, A, c, inner, e, hb, h1, h2, hr, hk⟩ := hx
  simp only [List.cons.injEq, and_true] at e
  obtain ⟨rfl, rfl, rfl⟩ := e
  obtain ⟨Ab, cb, rfl, hb1, hb2, hbR⟩ := hb
  have HbBs : Hid (∀ W' : World, Below w.heap.size w W' → Bs W' 0 w.heap.size (.slice Ab bs.length cb) bs) := fun W' hB => Bs.keep ⟨Ab, cb, rfl, hb1, hb2, hbR.toRd fun b hb => ⟨Nat.zero_le _, hS b hb⟩⟩ (Same.of_below hB (Nat.le_refl _))
  have Hr := Lib.hid hr
  have Hk := Lib.hid hk
  have HS := Lib.hid hS
  have Hih := Lib.hid ih
  have Hbulk := Lib.hid hbulk
  clear hbR hr hk hS ih hbulk
  go_enter Try.func15, Try.ntmps15
  go_wp2_with fail
  go_upto_region 1 with fail
  go_cut [3] (fun s3 wx => ∃ (g : Nat) (bv : Value), s3 = .pointer (some ⟨g, 0, none⟩) ∧ Below w.heap.size w wx ∧ wx.heap[w.heap.size]? = some (.cells #[.int .i64 l, .slice Ab bs.length cb, .slice A ks.length c] 27 (0, 0)) ∧ wx.heap[w.heap.size + 1]? = some (.cells #[.int .i64 0, .slice none 0 0, .slice none 0 0] 27 (0, 0)) ∧ Kb (w.heap.size + 2) wx g l bv (.slice none 0 0) bs [])
  case first =>
    go_region_held3 (fun w' => w'.cell? ⟨w.heap.size, 0, none⟩ = some (.int .i64 l) ∧ w'.cell? ⟨w.heap.size, 1, none⟩ = some (.slice Ab bs.length cb)) (first | go_keep | (simp only [go_sem] at *; simp [go_sem, q0, q1]; done) | (simp [go_sem, q0, q1]; done))
      (first
        | (go_at_call 18; refine (bytes18 0 w.heap.size _ bs _ (HbBs.out _ (by go_grown)) (by simp; omega) (by have := Hbulk.out; simp only [bulk] at this; omega)).mono ?_; rintro e w' ⟨bv, rfl, ho, hbl⟩; obtain ⟨Ab', cb', rfl, hbb1, hbb2, hbbR⟩ := ho.bs; obtain ⟨hcc, hff⟩ := bcell hbl; have q0 := (hbl.cell (p := ⟨w.heap.size, 0, none⟩) (by simp; omega)).trans (show _ = some (Value.int .i64 l) by simp [go_sem]); have q1 := (hbl.cell (p := ⟨w.heap.size, 1, none⟩) (by simp; omega)).trans (show _ = some (Value.slice Ab bs.length cb) by simp [go_sem])))
    all_goals go_wp2_with fail
    all_goals go_meet
    all_goals have hB2 : Below w.heap.size w w' := Below.trans (by go_grown) (hbl.mono (by simp only [size_alloc, heap_drew]; omega))
    all_goals have p0 := (hbl.block w.heap.size (by simp only [size_alloc, heap_drew]; omega)).trans (show _ = some (Obj.cells #[.int .i64 l, .slice Ab bs.length cb, .slice A ks.length c] 27 (0, 0)) by (simp only [heap_alloc, heap_drew, size_alloc]; repeat (first | rw [if_pos trivial] | rw [if_pos (by omega)] | rw [if_neg (by omega)])))
    all_goals have p1 := (hbl.block (w.heap.size + 1) (by simp only [size_alloc, heap_drew]; omega)).trans (show _ = some (Obj.cells #[.int .i64 0, .slice none 0 0, .slice none 0 0] 27 (0, 0)) by (simp only [heap_alloc, heap_drew, size_alloc]; repeat (first | rw [if_pos trivial] | rw [if_pos (by omega)] | rw [if_neg (by omega)])))
    all_goals have pz := hbl.size
    all_goals simp only [size_alloc, heap_drew] at pz
    any_goals
      refine ⟨_, _, rfl, ?_, ?_, ?_, kb_after w' _ l _ bs (ho.bs.wide (by simp [size_alloc, heap_drew]) (Nat.le_refl _)) ?_⟩
      · go_grown
        all_goals exact hB2
      · rw [heap_alloc, if_neg (by omega), p0]
      · rw [heap_alloc, if_neg (by omega), p1]
      · omega
    any_goals
      refine ⟨_, _, rfl, ?_, ?_, ?_, kb_ahead w' _ _ l _ bs (ho.bs.wide (by simp [size_alloc, heap_drew]) (Nat.le_refl _)) ?_ ?_⟩
      · go_grown
        all_goals exact hB2
      · simp (disch := omega) only [heap_set]; exact p0
      · simp (disch := omega) only [heap_set]; exact p1
      · omega
      · refine (hbl.block (w.heap.size + 2) (by simp only [size_alloc, heap_drew]; omega)).trans ?_
        simp only [heap_alloc, heap_drew, size_alloc]; repeat (first | rw [if_pos trivial] | rw [if_pos (by omega)] | rw [if_neg (by omega)])
  case rest =>
    obtain ⟨g, bv, rfl, hB0, hx0, hy0, hkb0⟩ := hcut
    have HB0 := Lib.hid hB0
    have Hx0 := Lib.hid hx0
    have Hy0 := Lib.hid hy0
    have Hkb0 := Lib.hid hkb0
    clear hB0 hx0 hy0 hkb0 HbBs
    go_wp2_with fail
    go_loopw [4] (fun i wr => ∃ (k : Nat) (kv : Value), k ≤ ks.length ∧ i = .int .i64 k ∧ Below w.heap.size w wr ∧ wr.heap[w.heap.size]? = some (.cells #[.int .i64 l, .slice Ab bs.length cb, .slice A ks.length c] 27 (0, 0)) ∧ wr.heap[w.heap.size + 1]? = some (.cells #[.int .i64 0, .slice none 0 0, .slice none 0 0] 27 (0, 0)) ∧ Kb (w.heap.size + 2) wr g l bv kv bs (ks.take k)) (fun i _ => ks.length - (intOf i).toNat)
    case atStart => exact ⟨0, _, by omega, rfl, HB0.out, Hx0.out, Hy0.out, by simpa using Hkb0.out⟩
    case round =>
      obtain ⟨k, kv, hk, rfl, hB, hx, hy, hkb⟩ := hrel
      have r2 : wr.cell? ⟨w.heap.size, 2, none⟩ = some (.slice A ks.length c) := by simp [World.cell?, hx]
      obtain ⟨g0, g1, g2, g3⟩ := hkb.cells
      obtain ⟨y0, y1, y2, y3⟩ := block_cells hy
      have hlen : (ks.take k).length = k := by rw [List.length_take]; omega
      obtain ⟨⟨Ab2, cb2, rfl⟩, ⟨Ak, ck, rfl⟩⟩ := kb_shape hkb
      rw [hlen] at g2 hkb
      have HB := Lib.hid hB
      have Hx := Lib.hid hx
      have Hy := Lib.hid hy
      have Hkb := Lib.hid hkb
      clear hB hx hy hkb
      by_cases hlt : k < ks.length
      · obtain ⟨ga, offa, rfl, hSa, hcell⟩ := Hr.out.2 (by omega)
        obtain ⟨d0, d1, d2, hd0, hd1, hd2, hit⟩ := Hk.out.at_ k hlt
        have hga := HS.out ga hSa
        have e0 := (HB.out.cell (p := ⟨ga, offa + 3 * k, none⟩) hga).trans (hcell _ _ hd0)
        have e1 := (HB.out.cell (p := ⟨ga, offa + (3 * k + 1), none⟩) hga).trans (hcell _ _ hd1)
        have e2 := (HB.out.cell (p := ⟨ga, offa + (3 * k + 2), none⟩) hga).trans (hcell _ _ hd2)
        have Hhit := Lib.hid hit
        clear hcell hd0 hd1 hd2 hit
        have Hgw : g ≠ w.heap.size := by have := Hkb.out.hb; omega
        have hgw2 : w.heap.size ≠ g := fun e => Hgw e.symm
        have hgw3 : g ≠ ga := by have := Hkb.out.hb; omega
        have hgw4 : ga ≠ g := fun e => hgw3 e.symm
        have hgw5 : g ≠ w.heap.size + 1 := by have := Hkb.out.hb; omega
        have Hrr := HB.out.size
        have Hgl := Hkb.out.lt
        have Hy9 := (Array.getElem?_eq_some_iff.1 Hy.out).1
        obtain ⟨inr, Ho, Hkk⟩ := Hkb.out.row hlen
        have Hol := fun b h => (Ho.lt b h).1
        have n0 : (Value.slice Ak k ck).ownBlock ≠ some w.heap.size := fun h => by have := Hol _ h; omega
        have n1 : (Value.slice Ak k ck).ownBlock ≠ some (w.heap.size + 1) := fun h => by have := Hol _ h; omega
        have n2 : (Value.slice Ak k ck).ownBlock ≠ some ga := fun h => by have := Hol _ h; omega
        have n3 : (Value.slice Ak k ck).ownBlock ≠ some g := Hkb.out.ne
        have N0 := Lib.hid n0
        have N1 := Lib.hid n1
        have N2 := Lib.hid n2
        have N3 := Lib.hid n3
        have HO := Lib.hid Ho
        have HKK := Lib.hid Hkk
        clear n0 n1 n2 n3 Ho Hkk Hol
        obtain ⟨i27, hi27, hz27, hs27, hby27⟩ := ty27
        have HI := Lib.hid hi27
        have HZ := Lib.hid hz27
        have HS27 := Lib.hid hs27
        have HBY := Lib.hid hby27
        clear hi27 hz27 hs27 hby27
        have hks : ks.length ≤ 1073741824 := by have a1 := Hbulk.out; have := bulks_length ks; simp only [bulk] at a1; omega
        have HBK : Hid (bulk (ks[k]'hlt) ≤ 1073741824) := by have a1 := Hbulk.out; have := bulks_mem (List.getElem_mem hlt); simp only [bulk] at a1; exact (by omega : bulk (ks[k]'hlt) ≤ 1073741824)
        have HKS := Lib.hid hks
        have A2 : Hid (k + 1 ≤ maxLen) := (show _ ≤ _ from by simp only [maxLen]; omega)
        have A3 : Hid ((k + 1) * 56 ≤ 140737488355328) := (show _ ≤ _ from by omega)
        clear hks
        have K1 : Hid (∀ W : World, W.heap = wr.heap → ItemR W S (ks[k]'hlt) [d0, d1, d2]) := fun W hW => ItemR.keep (fun b hb => by rw [hW]; exact HB.out.block b (HS.out b hb)) _ _ Hhit.out
        have K2 : Hid (∀ W : World, W.heap = wr.heap → ∀ b, S b → b < W.heap.size) := fun W hW b hb => by rw [hW]; exact Nat.lt_of_lt_of_le (HS.out b hb) Hrr
        rw [show 3 * k = k * 3 from Nat.mul_comm _ _, ← Nat.add_assoc] at e1 e2
        rw [show 3 * k = k * 3 from Nat.mul_comm _ _] at e0
        go_wp2_with fail
        go_region_law
          (first
            | (go_simp; go_at_call 15; refine (Hih.out (ks[k]'hlt) (List.getElem_mem hlt) S d0 d1 d2 _ (K1.out _ (by rfl)) (K2.out _ (by rfl)) HBK.out).mono ?_
               rintro e w1 ⟨f0, f1, f2, rfl, hit1, hbl⟩
               obtain ⟨⟨fl, rfl⟩, ⟨fA, fn, fc, rfl⟩, ⟨fB, fm, fd, rfl⟩⟩ := item_shape hit1
               have q0 := (hbl.cell (p := ⟨w.heap.size, 2, none⟩) (by show w.heap.size < wr.heap.size; omega)).trans r2
               have q1 := (hbl.cell (p := ⟨ga, offa + k * 3, none⟩) (by show ga < wr.heap.size; omega)).trans e0
               have q2 := (hbl.cell (p := ⟨ga, offa + k * 3 + 1, none⟩) (by show ga < wr.heap.size; omega)).trans e1
               have q3 := (hbl.cell (p := ⟨ga, offa + k * 3 + 2, none⟩) (by show ga < wr.heap.size; omega)).trans e2
               have q4 := (hbl.cell (p := ⟨g, 2, none⟩) (by show g < wr.heap.size; omega)).trans g2
               have q5 := (hbl.frozen (p := ⟨g, 2, none⟩) (by show g < wr.heap.size; omega)).trans g3
               have hbz := hbl.size
               have hltg : g < w1.heap.size := Nat.lt_of_lt_of_le Hgl hbz
               have hne1 : g ≠ w1.heap.size := Nat.ne_of_lt hltg
               have hne2 : w1.heap.size ≠ g := fun e => hne1 e.symm
               have q6 : (w1.alloc (.cells #[.int .i64 fl, .slice fA fn fc, .slice fB fm fd] 27)).cell? ⟨g, 2, none⟩ = some (.slice Ak k ck) := by simp [go_sem, hltg, q4]
               have HIT := Lib.hid hit1
               have HBL := Lib.hid hbl
               have A1 : Hid (∀ u ∈ [Value.int .i64 fl, Value.slice fA fn fc, Value.slice fB fm fd], u.oneCell' = true) := fun u hu => by
                 rcases List.mem_cons.1 hu with rfl | hu
                 · rfl
                 rcases List.mem_cons.1 hu with rfl | hu
                 · rfl
                 rcases List.mem_cons.1 hu with rfl | hu
                 · rfl
                 cases hu
               have A4 : Hid (w.heap.size + 2 ≤ (w1.alloc (.cells #[.int .i64 fl, .slice fA fn fc, .slice fB fm fd] 27)).heap.size) := (show _ ≤ _ from by rw [size_alloc]; have h9 : wr.heap.size ≤ w1.heap.size := hbz; omega)
               clear hit1 hbl)
            | (refine step_append_lies _ rfl (.tmp 19) (.tmp 26) 25 rfl (w.heap.size + 2) 27 i27 _ 3 56 Try.underlying25 HI.out HZ.out HS27.out HBY.out rfl (Nat.succ_pos _) (.slice Ak k ck) k inr rfl (own_keep HO.out fun b hb => (Below.heap_alloc _ _ _ (Nat.lt_of_lt_of_le (HO.out.lt b hb).2 HBL.out.size)).trans (HBL.out.block b (HO.out.lt b hb).2)) ⟨w1.heap.size, 0, none⟩ 1 1 [.int .i64 fl, .slice fA fn fc, .slice fB fm fd] rfl rfl (new3 w1 _ _ _ _) A1.out (Nat.le_refl _) A2.out A3.out A4.out _ rfl ?_
               intro gn cap w2 hown2 hgrow2 hat2 hlt2
               have hbz2 : wr.heap.size ≤ w1.heap.size := hbz
               have p0 := grown_cells hgrow2 (by omega) N0.out q0
               have p1 := grown_cells hgrow2 (by omega) N2.out q1
               have p2 := grown_cells hgrow2 (by omega) N2.out q2
               have p3 := grown_cells hgrow2 (by omega) N2.out q3
               have p4 := grown_cells hgrow2 (by omega) N3.out q4
               have p5 := grown_frozen hgrow2 (by omega) N3.out q5
               have HOWN := Lib.hid hown2
               have HGROW := Lib.hid hgrow2
               have HAT := Lib.hid hat2
               clear hown2 hgrow2 hat2))
        all_goals
          go_wp2_with fail
          go_roundw
          case measure => simp [intOf]; omega
          case rel =>
            have z1 : wr.heap.size ≤ w1.heap.size := hbz
            have b1 : Below w.heap.size w w1 := HB.out.trans (Below.mono (undrew HBL.out) Hrr)
            refine ⟨k + 1, .slice (some ⟨gn, 0, none⟩) (k + 1) cap, by omega, by go_num, ?_, ?_, ?_, ?_⟩
            · exact ((b1.alloc (Nat.le_trans Hrr z1) _).grown HGROW.out (by rw [size_alloc]; omega) (fun b hb => by have := (HO.out.lt b hb).1; omega)).setCell (by show w.heap.size ≤ g; have := Hkb.out.hb; omega) _
            · refine (heap_set _ _ _ _ _ Hgw).trans (grown_block HGROW.out (by omega) N0.out ?_)
              exact ((undrew HBL.out).block w.heap.size (by show w.heap.size < wr.heap.size; omega)).trans Hx.out
            · refine (heap_set _ _ _ _ _ hgw5).trans (grown_block HGROW.out (by omega) N1.out ?_)
              exact ((undrew HBL.out).block (w.heap.size + 1) (by show w.heap.size + 1 < wr.heap.size; omega)).trans Hy.out
            · rw [show ks.take (k + 1) = ks.take k ++ [ks[k]'hlt] from (List.take_append_getElem hlt).symm]
              exact Hkb.out.grow (undrew HBL.out) HIT.out hlen HO.out HKK.out HOWN.out HGROW.out HAT.out
      · obtain rfl : k = ks.length := by omega
        go_wp2_with fail
        have hgw5 : w.heap.size + 1 ≠ g := by have := Hkb.out.hb; omega
        refine bodyPost_ret (v := .agg #[.int .i64 l, .slice Ab2 bs.length cb2, .slice Ak ks.length ck]) (by simp [results, Try.results15, go_sem, y0, y1, y2]) rfl ?_
        have hz := HB.out.size
        have Hy9 := (Array.getElem?_eq_some_iff.1 Hy.out).1
        have ht : ks.take ks.length = ks := List.take_length
        have hI := Hkb.out.item
        rw [ht] at hI
        refine ⟨_, _, _, rfl, ItemR.wide (fun b hb => ⟨by have := hb.1; omega, by simpa [World.setCell] using hb.2⟩) _ _ (ItemR.keep (fun b hb => ?_) _ _ hI), ?_⟩
        · have hb1 : w.heap.size + 1 ≠ b := by have := hb.1; omega
          simp (disch := exact hb1) only [heap_set]
        · exact ((HB.out.setCell (by show _ ≤ w.heap.size + 1; omega) _).setCell (by show _ ≤ w.heap.size + 1; omega) _).setCell (by show _ ≤ w.heap.size + 1; omega) _
end Go.Proofs.Ytkdpphcalekbdaa.F1
