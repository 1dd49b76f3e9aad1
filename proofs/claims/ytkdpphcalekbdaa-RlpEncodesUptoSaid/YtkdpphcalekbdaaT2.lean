/- ref.form of a text with a head, and of a list. -/
import Derived.Test.YtkdpphcalekbdaaT1
set_option linter.unusedVariables false
set_option linter.unusedSimpArgs false
namespace Go.Proofs.Ytkdpphcalekbdaa.T2
open Go.ChangeShapes Go.WideShapes Go.ChangeAt Go.RowKit
open M W1 G2 H2 E4 L1 T1
set_option maxRecDepth 100000 in
set_option maxHeartbeats 1000000 in
theorem rform_text (xs : List UInt8) (hxs : ¬(xs.length = 1 ∧ (xs.headD 0).toNat < 128)) : RFormSpec (.mk 0 xs []) := by
  intro S c0 c1 c2 w hwf hx hS hbulk
  simp only [ItemR] at hx
  obtain ⟨v, A, c, inner, e, hb, h1, h2, hr, hk⟩ := hx
  simp only [List.cons.injEq, and_true] at e
  obtain ⟨rfl, rfl, rfl⟩ := e
  obtain ⟨Ab, cb, rfl, hb1, hb2, hbR⟩ := hb
  have hxl : xs.length ≤ 2097152 := by simp only [bulk] at hbulk; omega
  have HF3 := Lib.hid (show formF (.mk 0 xs []) = headF 128 xs.length ++ xs from by simp only [formF, if_pos, if_neg hxs])
  have hh2 := headF_le 128 xs.length (by omega)
  have HH : Hid (∀ w, Calls Try.prog 67 #[.int .u8 128, .int .i64 (xs.length : Int)] w fun e w' => ∃ v, e = .returned v ∧ M.Own w' w.heap.size v (headF 128 xs.length) ∧ Below w.heap.size w w') := fun w => refHead0_any 128 xs.length (by omega) (by omega) w
  have HRd : Hid (∀ W, Below w.heap.size w W → Rd W 0 w.heap.size 1 Ab xs.length (nums xs)) := fun W hW => (hbR.toRd fun b hb => ⟨Nat.zero_le _, hS b hb⟩).keep (Same.of_below hW (Nat.le_refl _))
  have HA : Hid ((headF 128 xs.length).length + xs.length ≤ maxLen ∧ ((headF 128 xs.length).length + xs.length) * 1 ≤ 140737488355328) := by
    have h : (headF 128 xs.length).length + xs.length ≤ maxLen ∧ ((headF 128 xs.length).length + xs.length) * 1 ≤ 140737488355328 := ⟨by unfold maxLen; omega, by omega⟩
    exact h
  have hz : ((xs.length : Int) == 1) = false ∨ (xs.length = 1 ∧ ∃ b, xs = [b] ∧ 128 ≤ b.toNat) := by
    by_cases h : xs.length = 1
    · refine .inr ⟨h, ?_⟩
      match xs, h, hxs with
      | [b], _, hxs => exact ⟨b, rfl, by simp at hxs; exact hxs⟩
    · refine .inl (by rw [beq_eq_false_iff_ne]; omega)
  have HK : Hid (∀ W, Below (w.heap.size + 1) (w.alloc (.cells #[.int .i64 0, .slice Ab xs.length cb, .slice A 0 c] 27)) W → W.cell? ⟨w.heap.size, 1, none⟩ = some (.slice Ab xs.length cb)) := fun W hW => (hW.cell (p := ⟨w.heap.size, 1, none⟩) (by show w.heap.size < _; omega)).trans (by simp [go_sem])
  have HBW : Hid (∀ W, Below (w.heap.size + 1) (w.alloc (.cells #[.int .i64 0, .slice Ab xs.length cb, .slice A 0 c] 27)) W → Below w.heap.size w W) := fun W hW => ((Below.refl _ w).alloc (Nat.le_refl _) _).trans (hW.mono (by omega))
  have fin : Calls Try.prog 51 #[.agg #[.int .i64 0, .slice Ab xs.length cb, .slice A 0 c]] w fun e w' => ∃ v, e = .returned v ∧ M.Own w' w.heap.size v (headF 128 xs.length ++ xs) ∧ Below w.heap.size w w' := by
    rcases hz with hz | ⟨hl, b, rfl, hb⟩
    · clear hbR hS hr hk hwf hbulk hxs hh2 hxl
      go_enter Try.func51, Try.ntmps51
      go_wp2_with fail
      go_region_held3 (fun w' => w'.cell? ⟨w.heap.size, 1, none⟩ = some (.slice Ab xs.length cb)) ((refine HK.out _ ?_; first | exact (Below.refl _ _).drew | (with_reducible exact HB3.out) | (with_reducible exact HB1.out)))
        (first
          | (refine step_append_any _ rfl (.tmp 26) (.tmp 28) 23 5 (.int .u8 0) 1 1 rfl Try.underlying23 M.info5 rfl (Nat.succ_pos _) w.heap.size _ _ (.slice Ah (headF 128 xs.length).length ch) (headF 128 xs.length).length (nums (headF 128 xs.length)) Ab xs.length cb (nums xs) rfl rfl HO1.out (HRd.out _ (HBW.out _ HB1.out)) (nums_one _) HA.out.1 HA.out.2 (HBW.out _ HB1.out).size ?_
             intro v' w3 hown3 hgrow3 hat3
             have HB3 : Hid (Below (w.heap.size + 1) (w.alloc (.cells #[.int .i64 0, .slice Ab xs.length cb, .slice A 0 c] 27)) w3) := HB1.out.grown hgrow3 (by have := HB1.out.size; rw [size_alloc] at this; exact this) (fun b hb => by have := (World.ownsRow.lt HO0.out b hb).1; omega)
             have HO3 := Lib.hid hown3
             clear hown3 hgrow3 hat3)
          | (go_at_call 67; refine (HH.out _).mono ?_
             rintro e w1 ⟨hv, rfl, ho, hbl⟩
             obtain ⟨Ah, ch, rfl, hq1, hq2, hq3⟩ := ho.bs
             have HB1 : Hid (Below (w.heap.size + 1) (w.alloc (.cells #[.int .i64 0, .slice Ab xs.length cb, .slice A 0 c] 27)) w1) := ((Below.refl _ _).drew).trans (hbl.mono (by show _ ≤ (w.alloc _).heap.size; rw [size_alloc]; omega))
             have HO0 : Hid (w1.ownsRow (w.heap.size + 1) 5 1 (.slice Ah (headF 128 xs.length).length ch) (headF 128 xs.length).length (nums (headF 128 xs.length))) := own_low ho (by show _ ≤ (w.alloc _).heap.size; rw [size_alloc]; omega)
             have HO1 : Hid (w1.ownsRow w.heap.size 5 1 (.slice Ah (headF 128 xs.length).length ch) (headF 128 xs.length).length (nums (headF 128 xs.length))) := own_low HO0.out (by omega)
             clear ho hbl hq3))
      all_goals go_wp2_with fail
      all_goals go_ret
      all_goals exact ⟨v', rfl, own_grow HO3.out, HBW.out _ HB3.out⟩
    · obtain ⟨g, off, rfl, hSg, hcell⟩ := hbR.2 (by simp)
      have hg := hS g hSg
      have hc : w.cell? ⟨g, off, none⟩ = some (.int .u8 (b.toNat : Int)) := hcell 0 _ rfl
      have hbi : ¬ (b.toNat : Int) < 128 := by omega
      have HH1 : Hid (∀ w, Calls Try.prog 67 #[.int .u8 128, .int .i64 1] w fun e w' => ∃ v, e = .returned v ∧ M.Own w' w.heap.size v (headF 128 1) ∧ Below w.heap.size w w') := HH.out
      have HA1 : Hid ((headF 128 1).length + 1 ≤ maxLen ∧ ((headF 128 1).length + 1) * 1 ≤ 140737488355328) := HA.out
      have HK1 : Hid (∀ W, Below (w.heap.size + 1) (w.alloc (.cells #[.int .i64 0, .slice (some ⟨g, off, none⟩) 1 cb, .slice A 0 c] 27)) W → W.cell? ⟨w.heap.size, 1, none⟩ = some (.slice (some ⟨g, off, none⟩) 1 cb)) := HK.out
      have HBW1 : Hid (∀ W, Below (w.heap.size + 1) (w.alloc (.cells #[.int .i64 0, .slice (some ⟨g, off, none⟩) 1 cb, .slice A 0 c] 27)) W → Below w.heap.size w W) := HBW.out
      have HRd1 : Hid (∀ W, Below w.heap.size w W → Rd W 0 w.heap.size 1 (some ⟨g, off, none⟩) 1 (nums [b])) := HRd.out
      clear hbR hS hr hk hwf hbulk hxs hh2 hxl hcell HK HBW HRd HA HH
      go_enter Try.func51, Try.ntmps51
      go_wp2_with fail
      go_region_held3 (fun w' => w'.cell? ⟨w.heap.size, 1, none⟩ = some (.slice (some ⟨g, off, none⟩) 1 cb)) ((refine HK1.out _ ?_; first | exact (Below.refl _ _).drew | (with_reducible exact HB3.out) | (with_reducible exact HB1.out)))
        (first
          | (refine step_append_any _ rfl (.tmp 26) (.tmp 28) 23 5 (.int .u8 0) 1 1 rfl Try.underlying23 M.info5 rfl (Nat.succ_pos _) w.heap.size _ _ (.slice Ah (headF 128 1).length ch) (headF 128 1).length (nums (headF 128 1)) (some ⟨g, off, none⟩) 1 cb (nums [b]) rfl rfl HO1.out (HRd1.out _ (HBW1.out _ HB1.out)) (nums_one _) HA1.out.1 HA1.out.2 (HBW1.out _ HB1.out).size ?_
             intro v' w3 hown3 hgrow3 hat3
             have HB3 : Hid (Below (w.heap.size + 1) (w.alloc (.cells #[.int .i64 0, .slice (some ⟨g, off, none⟩) 1 cb, .slice A 0 c] 27)) w3) := HB1.out.grown hgrow3 (by have := HB1.out.size; rw [size_alloc] at this; exact this) (fun b hb => by have := (World.ownsRow.lt HO0.out b hb).1; omega)
             have HO3 := Lib.hid hown3
             clear hown3 hgrow3 hat3)
          | (go_at_call 67; refine (HH1.out _).mono ?_
             rintro e w1 ⟨hv, rfl, ho, hbl⟩
             obtain ⟨Ah, ch, rfl, hq1, hq2, hq3⟩ := ho.bs
             have HB1 : Hid (Below (w.heap.size + 1) (w.alloc (.cells #[.int .i64 0, .slice (some ⟨g, off, none⟩) 1 cb, .slice A 0 c] 27)) w1) := ((Below.refl _ _).drew).trans (hbl.mono (by show _ ≤ (w.alloc _).heap.size; rw [size_alloc]; omega))
             have HO0 : Hid (w1.ownsRow (w.heap.size + 1) 5 1 (.slice Ah (headF 128 1).length ch) (headF 128 1).length (nums (headF 128 1))) := own_low ho (by show _ ≤ (w.alloc _).heap.size; rw [size_alloc]; omega)
             have HO1 : Hid (w1.ownsRow w.heap.size 5 1 (.slice Ah (headF 128 1).length ch) (headF 128 1).length (nums (headF 128 1))) := own_low HO0.out (by omega)
             clear ho hbl hq3))
      all_goals go_wp2_with fail
      all_goals go_ret
      all_goals exact ⟨v', rfl, own_grow HO3.out, HBW1.out _ HB3.out⟩
  rw [HF3.out]
  exact fin
set_option maxRecDepth 100000 in
set_option maxHeartbeats 2000000 in
theorem rform_list (ks : List It) (ih : ∀ k ∈ ks, RFormSpec k) : RFormSpec (.mk 1 [] ks) := by
  intro S c0 c1 c2 w hwf hx hS hbulk
  simp only [ItemR] at hx
  obtain ⟨v, A, c, inner, e, hb, h1, h2, hr, hk⟩ := hx
  simp only [List.cons.injEq, and_true] at e
  obtain ⟨rfl, rfl, rfl⟩ := e
  obtain ⟨Ab, cb, rfl, hb1, hb2, hbR⟩ := hb
  have hwk : wfIs ks := by
    simp only [wfI] at hwf
    rcases hwf with h | h
    · exact absurd h.1 (by decide)
    · exact h.2.2
  have hbk : bulks ks ≤ 2097152 := by simp only [bulk] at hbulk; omega
  have hfl := formsF_le ks (by omega)
  have hkl := bulks_length ks
  have HF3 := Lib.hid (show formF (.mk 1 [] ks) = headF 192 (formsF ks).length ++ formsF ks from by simp [formF])
  have hh2 := headF_le 192 (formsF ks).length (by omega)
  have HH : Hid (∀ w, Calls Try.prog 67 #[.int .u8 192, .int .i64 ((formsF ks).length : Int)] w fun e w' => ∃ v, e = .returned v ∧ M.Own w' w.heap.size v (headF 192 (formsF ks).length) ∧ Below w.heap.size w w') := fun w => refHead0_any 192 _ (by omega) (by omega) w
  have HA : Hid ((headF 192 (formsF ks).length).length + (formsF ks).length ≤ maxLen ∧ ((headF 192 (formsF ks).length).length + (formsF ks).length) * 1 ≤ 140737488355328) := by
    have h : (headF 192 (formsF ks).length).length + (formsF ks).length ≤ maxLen ∧ ((headF 192 (formsF ks).length).length + (formsF ks).length) * 1 ≤ 140737488355328 := ⟨by unfold maxLen; omega, by omega⟩
    exact h
  have hll : ks.length ≤ 2097152 := by omega
  have Hr := Lib.hid hr
  have Hk := Lib.hid hk
  have HS := Lib.hid hS
  have Hih := Lib.hid ih
  have Hbk := Lib.hid hbk
  have Hwk := Lib.hid hwk
  clear hbR hr hk hS ih hbk hwk hwf hbulk hfl hkl hh2
  go_enter Try.func51, Try.ntmps51
  go_wp2_with fail
  go_loopw [3, 4] (fun a i wr => ∃ (k : Nat) (Aa : Option Addr) (ca : Nat), k ≤ ks.length ∧ i = .int .i64 (k : Int) ∧ a = .slice Aa (formsF (ks.take k)).length ca ∧ M.Own wr (w.heap.size + 1) (.slice Aa (formsF (ks.take k)).length ca) (formsF (ks.take k)) ∧ Below (w.heap.size + 1) (w.alloc (.cells #[.int .i64 1, .slice Ab 0 cb, .slice A ks.length c] 27)) wr) (fun _ i _ => ks.length - (intOf i).toNat)
  case atStart => exact ⟨0, none, 0, by omega, rfl, rfl, World.ownsRow_nil _ _ _ _, Below.refl _ _⟩
  case round =>
    obtain ⟨k, Aa, ca, hk, rfl, rfl, hown, hB⟩ := hrel
    have ex : Hid (wr.heap[w.heap.size]? = some (.cells #[.int .i64 1, .slice Ab 0 cb, .slice A ks.length c] 27 (0, 0))) := (hB.block w.heap.size (by omega)).trans (by rw [heap_alloc, if_pos rfl])
    have x2 := (block_cells ex.out).2.2.1
    have hw : Below w.heap.size w wr := ((Below.refl _ w).alloc (Nat.le_refl _) _).trans (hB.mono (by omega))
    have HB := Lib.hid hw
    have HBB := Lib.hid hB
    have HO := Lib.hid hown
    have hz1 : w.heap.size + 1 ≤ wr.heap.size := by have := hB.size; rw [size_alloc] at this; exact this
    clear hB hown
    by_cases hlt : k < ks.length
    · obtain ⟨ga, offa, rfl, hSa, hcell⟩ := Hr.out.2 (by omega)
      obtain ⟨d0, d1, d2, hd0, hd1, hd2, hit⟩ := Hk.out.at_ k hlt
      have hga := HS.out ga hSa
      have e0 := (hw.cell (p := ⟨ga, offa + 3 * k, none⟩) hga).trans (hcell _ _ hd0)
      have e1 := (hw.cell (p := ⟨ga, offa + (3 * k + 1), none⟩) hga).trans (hcell _ _ hd1)
      have e2 := (hw.cell (p := ⟨ga, offa + (3 * k + 2), none⟩) hga).trans (hcell _ _ hd2)
      rw [show 3 * k = k * 3 from Nat.mul_comm _ _, ← Nat.add_assoc] at e1 e2
      rw [show 3 * k = k * 3 from Nat.mul_comm _ _] at e0
      obtain ⟨⟨fl, rfl⟩, ⟨fA, fn, fc, rfl⟩, ⟨fB, fm, fd, rfl⟩⟩ := item_shape hit
      have hbb : bulk (ks[k]'hlt) + bulks (ks.take k) ≤ 2097152 := by
        have e := bulks_append (ks.take k) (ks.drop k)
        rw [List.take_append_drop] at e
        have h9 : bulk (ks[k]'hlt) ≤ bulks (ks.drop k) := by
          rw [List.drop_eq_getElem_cons hlt]; simp only [bulks]; omega
        have := Hbk.out
        omega
      have hf1 := formF_le (ks[k]'hlt) (by omega)
      have hf2 := formsF_le (ks.take k) (by omega)
      have HC : Hid (Calls Try.prog 51 #[.agg #[.int .i64 fl, .slice fA fn fc, .slice fB fm fd]] wr fun e w' => ∃ v, e = .returned v ∧ M.Own w' wr.heap.size v (formF (ks[k]'hlt)) ∧ Below wr.heap.size wr w') :=
        Hih.out _ (List.getElem_mem hlt) S _ _ _ wr (wfIs_mem Hwk.out _ (List.getElem_mem hlt)) (ItemR.keep (fun b hb => HB.out.block b (HS.out b hb)) _ _ hit) (fun b hb => Nat.lt_of_lt_of_le (HS.out b hb) HB.out.size) (by omega)
      have Hstep := Lib.hid (formsF_take_succ ks k hlt)
      have HA2 : Hid ((formsF (ks.take k)).length + (formF (ks[k]'hlt)).length ≤ maxLen ∧ ((formsF (ks.take k)).length + (formF (ks[k]'hlt)).length) * 1 ≤ 140737488355328) := by
        have h : (formsF (ks.take k)).length + (formF (ks[k]'hlt)).length ≤ maxLen ∧ ((formsF (ks.take k)).length + (formF (ks[k]'hlt)).length) * 1 ≤ 140737488355328 := ⟨by unfold maxLen; omega, by omega⟩
        exact h
      generalize formsF (ks.take k) = fk at *
      generalize formF (ks[k]'hlt) = f1 at *
      clear hcell hd0 hd1 hd2 hit hw hbb hf1 hf2
      go_wp2_with (first
        | (go_at_call 51; refine HC.out.mono ?_
           rintro e w1 ⟨hv, rfl, ho, hbl⟩
           obtain ⟨Ah, ch, rfl, hq1, hq2, hq3⟩ := ho.bs
           have HB1 := Lib.hid hbl
           have HO1 : Hid (w1.ownsRow (w.heap.size + 1) 5 1 (.slice Aa fk.length ca) fk.length (nums fk)) := own_keep HO.out (fun b hb => hbl.block b (World.ownsRow.lt HO.out b hb).2)
           have HR1 := Lib.hid hq3
           clear ho hq3 hbl)
        | (at_builtin; refine wp_append rfl (.tmp 37) (.tmp 43) 23 5 (.int .u8 0) 1 1 rfl Try.underlying23 M.info5 rfl (by omega) (w.heap.size + 1) _ _ (.slice Aa fk.length ca) fk.length (nums fk) Ah f1.length ch (nums f1) rfl rfl HO1.out HR1.out (nums_one _) HA2.out.1 HA2.out.2 (Nat.le_trans hz1 HB1.out.size) ?_
           intro v' w2 hown2 hgrow2 hat2
           have HO2 : Hid (M.Own w2 (w.heap.size + 1) v' (fk ++ f1)) := own_grow hown2
           have HG2 := Lib.hid hgrow2
           obtain ⟨A2, c2, rfl, hq4, hq5, hq6⟩ := HO2.out.bs
           clear hown2 hgrow2 hat2 hq6))
      go_roundw
      case rel =>
        refine ⟨k + 1, A2, c2, by omega, by go_num, by rw [Hstep.out, List.length_append], by rw [Hstep.out]; exact HO2.out, ?_⟩
        exact (HBB.out.trans (HB1.out.mono hz1)).grown HG2.out (Nat.le_trans hz1 HB1.out.size) (fun b hb => (World.ownsRow.lt HO1.out b hb).1)
      case measure => simp [intOf]; omega
    · obtain rfl : k = ks.length := by omega
      have et : ks.take ks.length = ks := List.take_length
      rw [et] at HO ⊢
      generalize formsF ks = fx at *
      generalize headF 192 fx.length = hx at *
      clear hw
      go_wp2_with (first
        | (go_at_call 67; refine (HH.out _).mono ?_
           rintro e w1 ⟨hv, rfl, ho, hbl⟩
           obtain ⟨Ah, ch, rfl, hq1, hq2, hq3⟩ := ho.bs
           have HB1 := Lib.hid hbl
           have HO1 : Hid (w1.ownsRow w.heap.size 5 1 (.slice Ah hx.length ch) hx.length (nums hx)) := own_low ho (by omega)
           have HR1 : Hid (Rd w1 (w.heap.size + 1) w1.heap.size 1 Aa fx.length (nums fx)) := by
             obtain ⟨A', c', e, _, _, h3⟩ := HO.out.bs
             obtain ⟨rfl, _, rfl⟩ := (Value.slice.injEq _ _ _ _ _ _).mp e
             exact (h3.keep (Same.of_below hbl (Nat.le_refl _))).wide (Nat.le_refl _) hbl.size
           clear ho hq3 hbl)
        | (at_builtin; refine wp_append rfl (.tmp 47) (.tmp 48) 23 5 (.int .u8 0) 1 1 rfl Try.underlying23 M.info5 rfl (by omega) w.heap.size _ _ (.slice Ah hx.length ch) hx.length (nums hx) Aa fx.length ca (nums fx) rfl rfl HO1.out HR1.out (nums_one _) HA.out.1 HA.out.2 (Nat.le_trans (by omega) HB1.out.size) ?_
           intro v' w2 hown2 hgrow2 hat2
           have HO2 : Hid (M.Own w2 w.heap.size v' (hx ++ fx)) := own_grow hown2
           have HG2 := Lib.hid hgrow2
           clear hown2 hgrow2 hat2))
      go_ret
      rw [HF3.out]
      refine ⟨v', rfl, HO2.out, ?_⟩
      exact (HB.out.trans (HB1.out.mono HB.out.size)).grown HG2.out (Nat.le_trans (by omega) HB1.out.size) (fun b hb => (World.ownsRow.lt HO1.out b hb).1)
/-- ref.form is formF. -/
theorem rform51 (x : It) : RFormSpec x := by
  refine It.ind ?_ x
  intro l bs ks ih
  by_cases hw : wfI (.mk l bs ks)
  · have hw' := hw
    simp only [wfI] at hw
    rcases hw with ⟨rfl, rfl⟩ | ⟨rfl, rfl, h⟩
    · by_cases hs : bs.length = 1 ∧ (bs.headD 0).toNat < 128
      · obtain ⟨h1, h2⟩ := hs
        match bs, h1 with
        | [b0], _ => exact rform_small b0 h2
      · exact rform_text bs hs
    · exact rform_list ks ih
  · intro S c0 c1 c2 w hwf
    exact absurd hwf hw
set_option maxRecDepth 100000 in
set_option maxHeartbeats 1000000 in
theorem rencode20_err (x : It) (S : Nat → Prop) (c0 c1 c2 : Value) (w : World) (hx : ItemR w S x [c0, c1, c2]) (hS : ∀ b, S b → b < w.heap.size) (hb : bulk x ≤ 2097152) (h : checkF 0 x ≠ 0) :
    Calls Try.prog 20 #[.agg #[c0, c1, c2]] w fun e w' => e = .returned (.tuple #[.slice none 0 0, .int .i64 (checkF 0 x : Int)]) ∧ Below w.heap.size w w' := by
  have HC : Hid (∀ W, Below w.heap.size w W → Calls Try.prog 50 #[.agg #[c0, c1, c2], .int .i64 0] W fun e w' => e = .returned (.int .i64 (checkF 0 x : Int)) ∧ Below W.heap.size W w') := fun W hW =>
    rcheck50 x S c0 c1 c2 0 W (ItemR.keep (fun b hb => hW.block b (hS b hb)) _ _ hx) (fun b hb => Nat.lt_of_lt_of_le (hS b hb) hW.size) (by omega) (by omega)
  obtain ⟨⟨fl, rfl⟩, ⟨fA, fn, fc, rfl⟩, ⟨fB, fm, fd, rfl⟩⟩ := item_shape hx
  have hzi : ¬ ((checkF 0 x : Nat) : Int) = 0 := by omega
  clear hx hS hb h
  generalize checkF 0 x = r at HC hzi ⊢
  go_enter Try.func20, Try.ntmps20
  go_wp2_with (first
    | (go_at_call 50; refine (HC.out _ (by go_grown)).mono ?_
       rintro e w1 ⟨rfl, hbl⟩
       have HB1 : Hid (Below w.heap.size w w1) := ((Below.refl _ w).alloc (Nat.le_refl _) _).trans (hbl.mono (by rw [size_alloc]; omega))
       clear hbl))
  go_ret2
  exact ⟨rfl, HB1.out⟩
set_option maxRecDepth 100000 in
set_option maxHeartbeats 1000000 in
theorem rencode20_ok (x : It) (S : Nat → Prop) (c0 c1 c2 : Value) (w : World) (hx : ItemR w S x [c0, c1, c2]) (hS : ∀ b, S b → b < w.heap.size) (hb : bulk x ≤ 2097152) (h : checkF 0 x = 0) :
    Calls Try.prog 20 #[.agg #[c0, c1, c2]] w fun e w' => ∃ A c, e = .returned (.tuple #[.slice A (formF x).length c, .int .i64 0]) ∧ Bs w' w.heap.size w'.heap.size (.slice A (formF x).length c) (formF x) ∧ Below w.heap.size w w' := by
  have HC : Hid (∀ W, Below w.heap.size w W → Calls Try.prog 50 #[.agg #[c0, c1, c2], .int .i64 0] W fun e w' => e = .returned (.int .i64 0) ∧ Below W.heap.size W w') := fun W hW => by
    have := rcheck50 x S c0 c1 c2 0 W (ItemR.keep (fun b hb => hW.block b (hS b hb)) _ _ hx) (fun b hb => Nat.lt_of_lt_of_le (hS b hb) hW.size) (by omega) (by omega)
    rw [h] at this
    exact this
  have HE : Hid (∀ W, Below w.heap.size w W → Calls Try.prog 51 #[.agg #[c0, c1, c2]] W fun e w' => ∃ v, e = .returned v ∧ M.Own w' W.heap.size v (formF x) ∧ Below W.heap.size W w') := fun W hW =>
    rform51 x S c0 c1 c2 W (check_wf x 0 h) (ItemR.keep (fun b hb => hW.block b (hS b hb)) _ _ hx) (fun b hb => Nat.lt_of_lt_of_le (hS b hb) hW.size) hb
  obtain ⟨⟨fl, rfl⟩, ⟨fA, fn, fc, rfl⟩, ⟨fB, fm, fd, rfl⟩⟩ := item_shape hx
  clear hx hS hb h
  generalize formF x = fx at *
  go_enter Try.func20, Try.ntmps20
  go_wp2_with (first
    | (go_at_call 50; refine (HC.out _ (by go_grown)).mono ?_
       rintro e w1 ⟨rfl, hbl⟩
       have hx0 := (hbl.block w.heap.size (by rw [size_alloc]; omega)).trans (show _ = some (Obj.cells #[.int .i64 fl, .slice fA fn fc, .slice fB fm fd] 27 (0, 0)) by rw [heap_alloc, if_pos rfl])
       obtain ⟨y0, y1, y2, y3⟩ := block_cells hx0
       have HB1 : Hid (Below w.heap.size w w1) := ((Below.refl _ w).alloc (Nat.le_refl _) _).trans (hbl.mono (by rw [size_alloc]; omega))
       clear hbl hx0)
    | (go_at_call 51; refine (HE.out _ HB1.out).mono ?_
       rintro e w2 ⟨hv, rfl, ho, hbl⟩
       have HS2 : Hid (Bs w2 w.heap.size w2.heap.size hv fx) := ho.bs.wide HB1.out.size (Nat.le_refl _)
       obtain ⟨A2, c2, rfl, _⟩ := ho.bs
       have HB2 : Hid (Below w.heap.size w w2) := HB1.out.trans (hbl.mono HB1.out.size)
       clear hbl ho))
  go_ret2
  exact ⟨A2, c2, rfl, HS2.out, HB2.out⟩
end Go.Proofs.Ytkdpphcalekbdaa.T2
