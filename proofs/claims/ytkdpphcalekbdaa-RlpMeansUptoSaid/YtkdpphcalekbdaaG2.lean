/- rlp.size. -/
import Derived.Test.YtkdpphcalekbdaaU
import Derived.Test.YtkdpphcalekbdaaJ
import Derived.Test.YtkdpphcalekbdaaW5
set_option linter.unusedVariables false
set_option linter.unusedSimpArgs false
namespace Go.Proofs.Ytkdpphcalekbdaa.G2
open Go.ChangeShapes Go.WideShapes Go.ChangeAt Go.RowKit
open M W1
/-- size tells how long the form is, and the payload. -/
def SizeSpec (f : Nat) (x : It) : Prop := ∀ (S : Nat → Prop) (c0 c1 c2 : Value) (w : World), wfI x → ItemR w S x [c0, c1, c2] → (∀ b, S b → b < w.heap.size) → bulk x ≤ 1073741824 →
  Calls Try.prog f #[.agg #[c0, c1, c2]] w fun e w' => e = .returned (.tuple #[.int .i64 ((formF x).length : Int), .int .i64 ((payF x).length : Int)]) ∧ Below w.heap.size w w'
set_option maxRecDepth 100000 in
set_option maxHeartbeats 2000000 in
theorem size49_text (bs : List UInt8) : SizeSpec 49 (.mk 0 bs []) := by
  intro S c0 c1 c2 w hwf hx hS hbulk
  simp only [ItemR] at hx
  obtain ⟨v, A, c, inner, e, hb, h1, h2, hr, hk⟩ := hx
  simp only [List.cons.injEq, and_true] at e
  obtain ⟨rfl, rfl, rfl⟩ := e
  obtain ⟨Ab, cb, rfl, hb1, hb2, hbR⟩ := hb
  have hn : bs.length < 1099511627776 := by simp only [bulk] at hbulk; omega
  have Hhead : Hid (∀ w, Calls Try.prog 66 #[.int .u8 128, .int .i64 (bs.length : Int)] w fun e w' => ∃ v, e = .returned v ∧ Own w' w.heap.size v (headF 128 bs.length) ∧ Below w.heap.size w w') := fun w => head_any 128 bs.length hn (by omega) w
  have hle := headF_le 128 bs.length hn
  by_cases h0 : bs.length = 1
  · obtain ⟨b, rfl⟩ := List.length_eq_one_iff.1 h0
    obtain ⟨g, off, rfl, hSg, hcell⟩ := hbR.2 (by simp)
    have hg := hS g hSg
    have hc : w.cell? ⟨g, off, none⟩ = some (.int .u8 (b.toNat : Int)) := hcell 0 _ rfl
    clear hcell hbR hS hr hk
    by_cases hb : b.toNat < 128
    · have hf : Hid ((formF (.mk 0 [b] [])).length = 1 ∧ (payF (.mk 0 [b] [])).length = 1) := ⟨by simp [formF, hb], by simp [payF]⟩
      have hbi : (b.toNat : Int) < 128 := by omega
      rw [hf.out.1, hf.out.2]
      go_enter Try.func49, Try.ntmps49
      go_wp2_with fail
      go_returns
      exact ⟨rfl, by go_grown⟩
    · have hf : Hid ((formF (.mk 0 [b] [])).length = 1 + (headF 128 1).length ∧ (payF (.mk 0 [b] [])).length = 1) := ⟨by simp [formF, hb]; omega, by simp [payF]⟩
      have hbi : ¬ (b.toNat : Int) < 128 := by omega
      have Hhead1 : Hid (∀ w, Calls Try.prog 66 #[.int .u8 128, .int .i64 1] w fun e w' => ∃ v, e = .returned v ∧ Own w' w.heap.size v (headF 128 1) ∧ Below w.heap.size w w') := Hhead.out
      rw [hf.out.1, hf.out.2]
      clear Hhead
      go_enter Try.func49, Try.ntmps49
      go_wp2_with (first | (go_at_call 66; refine (Hhead1.out _).mono ?_; rintro e w1 ⟨v, rfl, ho, hbl⟩; obtain ⟨Ah, ch, rfl, hq1, hq2, hq3⟩ := ho.bs; clear ho hq3))
      go_returns
      have hle1 := headF_le 128 1 (by omega)
      refine ⟨by simp [wrap64]; omega, ?_⟩
      go_grown
      all_goals exact ((Below.refl _ w).alloc (Nat.le_refl _) _).trans (hbl.mono (by rw [size_alloc]; omega))
  · have hf : Hid ((formF (.mk 0 bs [])).length = bs.length + (headF 128 bs.length).length ∧ (payF (.mk 0 bs [])).length = bs.length) := ⟨by simp [formF, h0]; omega, by simp [payF]⟩
    have h0i : ¬ (bs.length : Int) = 1 := by omega
    rw [hf.out.1, hf.out.2]
    clear hbR hr hk hS
    go_enter Try.func49, Try.ntmps49
    go_wp2_with (first | (go_at_call 66; refine (Hhead.out _).mono ?_; rintro e w1 ⟨v, rfl, ho, hbl⟩; obtain ⟨Ah, ch, rfl, hq1, hq2, hq3⟩ := ho.bs; clear ho hq3))
    go_returns
    refine ⟨by simp, ?_⟩
    go_grown
    all_goals exact ((Below.refl _ w).alloc (Nat.le_refl _) _).trans (hbl.mono (by rw [size_alloc]; omega))
set_option maxRecDepth 100000 in
set_option maxHeartbeats 2000000 in
theorem size49_list (ks : List It) (ih : ∀ k ∈ ks, SizeSpec 49 k) : SizeSpec 49 (.mk 1 [] ks) := by
  intro S c0 c1 c2 w hwf hx hS hbulk
  simp only [ItemR] at hx
  obtain ⟨v, A, c, inner, e, hb, h1, h2, hr, hk⟩ := hx
  simp only [List.cons.injEq, and_true] at e
  obtain ⟨rfl, rfl, rfl⟩ := e
  obtain ⟨Ab, cb, rfl, hb1, hb2, hbR⟩ := hb
  have hwk : wfIs ks := by
    simp only [wfI] at hwf
    rcases hwf with h | h
    · exact absurd h.1 (by decide)
    · exact h.2.2
  have hbk : bulks ks ≤ 1073741824 := by simp only [bulk] at hbulk; omega
  have hfl := formsF_le ks (by omega)
  have Hhead : Hid (∀ w, Calls Try.prog 66 #[.int .u8 128, .int .i64 ((formsF ks).length : Int)] w fun e w' => ∃ v, e = .returned v ∧ Own w' w.heap.size v (headF 128 (formsF ks).length) ∧ Below w.heap.size w w') := fun w => head_any 128 _ (by omega) (by omega) w
  have hle := headF_le 128 (formsF ks).length (by omega)
  have hf : Hid ((formF (.mk 1 [] ks)).length = (formsF ks).length + (headF 128 (formsF ks).length).length ∧ (payF (.mk 1 [] ks)).length = (formsF ks).length) := ⟨by simp [formF, headF_length 192 128]; omega, by simp [payF]⟩
  rw [hf.out.1, hf.out.2]
  have Hr := Lib.hid hr
  have Hk := Lib.hid hk
  have HS := Lib.hid hS
  have Hih := Lib.hid ih
  have Hbk := Lib.hid hbk
  have Hwk := Lib.hid hwk
  have Hle := Lib.hid hle
  have Hfl := Lib.hid hfl
  clear hbR hr hk hS ih hbk hwk hle hfl hwf hbulk
  go_enter Try.func49, Try.ntmps49
  go_wp2_with fail
  go_loopw [4, 18] (fun n i wr => ∃ k : Nat, k ≤ ks.length ∧ n = .int .i64 ((formsF (ks.take k)).length : Int) ∧ i = .int .i64 (k : Int) ∧ Below w.heap.size w wr) (fun _ i _ => ks.length - (intOf i).toNat)
  case atStart => exact ⟨0, by omega, by simp [formsF], rfl, by go_grown⟩
  case round =>
    obtain ⟨k, hk, rfl, rfl, hB⟩ := hrel
    by_cases hlt : k < ks.length
    · obtain ⟨ga, offa, rfl, hSa, hcell⟩ := Hr.out.2 (by omega)
      obtain ⟨d0, d1, d2, hd0, hd1, hd2, hit⟩ := Hk.out.at_ k hlt
      have hga := HS.out ga hSa
      have e0 := (hB.cell (p := ⟨ga, offa + 3 * k, none⟩) hga).trans (hcell _ _ hd0)
      have e1 := (hB.cell (p := ⟨ga, offa + (3 * k + 1), none⟩) hga).trans (hcell _ _ hd1)
      have e2 := (hB.cell (p := ⟨ga, offa + (3 * k + 2), none⟩) hga).trans (hcell _ _ hd2)
      rw [show 3 * k = k * 3 from Nat.mul_comm _ _, ← Nat.add_assoc] at e1 e2
      rw [show 3 * k = k * 3 from Nat.mul_comm _ _] at e0
      obtain ⟨⟨fl, rfl⟩, ⟨fA, fn, fc, rfl⟩, ⟨fB, fm, fd, rfl⟩⟩ := item_shape hit
      have K1 : Hid (∀ W : World, Below wr.heap.size wr W → ItemR W S (ks[k]'hlt) [.int .i64 fl, .slice fA fn fc, .slice fB fm fd]) := fun W hW => ItemR.keep (fun b hb => (hB.trans (hW.mono hB.size)).block b (HS.out b hb)) _ _ hit
      have K2 : Hid (∀ W : World, Below wr.heap.size wr W → ∀ b, S b → b < W.heap.size) := fun W hW b hb => Nat.lt_of_lt_of_le (HS.out b hb) (hB.trans (hW.mono hB.size)).size
      have HBK : Hid (bulk (ks[k]'hlt) ≤ 1073741824) := Nat.le_trans (bulks_mem (List.getElem_mem hlt)) Hbk.out
      have HWK : Hid (wfI (ks[k]'hlt)) := wfIs_mem Hwk.out _ (List.getElem_mem hlt)
      have HCall := Lib.hid (Hih.out _ (List.getElem_mem hlt))
      have hstep : (formsF (ks.take (k + 1))).length = (formsF (ks.take k)).length + (formF (ks[k]'hlt)).length := by rw [formsF_take_succ ks k hlt, List.length_append]
      have hb1 : (formF (ks[k]'hlt)).length ≤ 7 * bulk (ks[k]'hlt) := formF_le _ (by have := HBK.out; omega)
      have hb2 : (formsF (ks.take k)).length ≤ 7 * bulks (ks.take k) := formsF_le _ (by have := Hbk.out; have e := bulks_append (ks.take k) (ks.drop k); rw [List.take_append_drop] at e; omega)
      have hb3 : bulks (ks.take k) ≤ 1073741824 := by have := Hbk.out; have e := bulks_append (ks.take k) (ks.drop k); rw [List.take_append_drop] at e; omega
      have hb4 := HBK.out
      have Hstep := Lib.hid hstep
      have HB := Lib.hid hB
      have hs1 : (formF (ks[k]'hlt)).length ≤ 7516192768 := by omega
      have hs2 : (formsF (ks.take k)).length ≤ 7516192768 := by omega
      clear hcell hd0 hd1 hd2 hit hstep hB hb1 hb2 hb3 hb4
      go_wp2_with (first | (go_at_call 49; refine (HCall.out S _ _ _ _ HWK.out (K1.out _ (by go_grown)) (K2.out _ (by go_grown)) HBK.out).mono ?_; rintro e w1 ⟨rfl, hbl⟩))
      refine ⟨⟨k + 1, by omega, congrArg (Value.int .i64) (by rw [Hstep.out]; first | (unfold wrap64; omega) | (rw [Int.natCast_add])), by go_num, (HB.out.alloc HB.out.size _).trans (hbl.mono (by rw [size_alloc]; have := HB.out.size; omega))⟩, by simp [intOf]; omega⟩
    · obtain rfl : k = ks.length := by omega
      have et : ks.take ks.length = ks := List.take_length
      rw [et]
      have Hs1 := Hfl.out
      have hs2 := Hbk.out
      have hs3 := Hle.out
      have hs4 : (formsF ks).length ≤ 7516192768 := by omega
      clear Hs1 hs2
      go_wp2_with (first | (go_at_call 66; refine (Hhead.out _).mono ?_; rintro e w1 ⟨v, rfl, ho, hbl⟩; obtain ⟨Ah, ch, rfl, hq1, hq2, hq3⟩ := ho.bs; clear ho hq3))
      go_returns
      exact ⟨by simp, hB.trans (hbl.mono hB.size)⟩
/-- size of an item that may be. -/
theorem size49 (x : It) : SizeSpec 49 x := by
  refine It.ind ?_ x
  intro l bs ks ih S c0 c1 c2 w hwf
  have hwf' := hwf
  simp only [wfI] at hwf'
  rcases hwf' with ⟨rfl, rfl⟩ | ⟨rfl, rfl, _⟩
  · exact size49_text bs S c0 c1 c2 w hwf
  · exact size49_list ks ih S c0 c1 c2 w hwf
end Go.Proofs.Ytkdpphcalekbdaa.G2
