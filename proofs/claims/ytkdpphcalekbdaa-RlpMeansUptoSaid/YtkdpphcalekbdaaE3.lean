/- rlp.encode of a list. -/
import Derived.Test.YtkdpphcalekbdaaE2
import Derived.Test.YtkdpphcalekbdaaH3
import Derived.Deep.DeepCutAuto
import Derived.Deep.RegionLaw
import Derived.Deep.CutRange
set_option linter.unusedVariables false
set_option linter.unusedSimpArgs false
namespace Go.Proofs.Ytkdpphcalekbdaa.E3
open Go.ChangeShapes Go.WideShapes Go.ChangeAt Go.RowKit Go.Shelf
open M W1 G2 E1
attribute [local go_sem] Oper.semAt_some
/-- b's box, its row, and that nothing else that lay has turned. -/
def BoxRow (w wx : World) (base : Nat) (r : Option Nat) (out : List UInt8) : Prop :=
  ∃ A c, wx.heap[w.heap.size]? = some (.cells #[.slice A out.length c] 23 (0, 0)) ∧ M.Own wx base (.slice A out.length c) out ∧ w.grownBy wx r ∧ ((Value.slice A out.length c).ownBlock = r ∨ ∃ k, w.heap.size < k ∧ (Value.slice A out.length c).ownBlock = some k)
theorem raws_ofT {w : World} {S : Nat → Prop} {A : Option Addr} {ks : List It} {inner : List Value} (hr : RdS w S 3 A ks.length inner) (raw : Fin ks.length → H1.Raw)
    (h : ∀ j : Fin ks.length, inner[3 * j.1]? = some (.int .i64 (raw j).l) ∧ inner[3 * j.1 + 1]? = some (.slice (raw j).A (raw j).n (raw j).c) ∧ inner[3 * j.1 + 2]? = some (.slice (raw j).B (raw j).m (raw j).d)) :
    ∀ W, (∀ b, S b → W.heap[b]? = w.heap[b]?) → H4.Raws raw S W A (List.finRange ks.length) := fun W hW hp => by
  rw [List.length_finRange] at hp
  obtain ⟨g, off, rfl, hSg, hc⟩ := hr.2 hp
  refine ⟨g, off, rfl, hSg, fun j hj => ?_⟩
  have hj' : j < ks.length := by simpa using hj
  have e : (List.finRange ks.length)[j]'hj = ⟨j, hj'⟩ := by simp
  obtain ⟨h0, h1, h2⟩ := h ⟨j, hj'⟩
  have hw : ∀ o, W.cell? ⟨g, o, none⟩ = w.cell? ⟨g, o, none⟩ := fun o => World.cell?_of_block (w := w) (a := ⟨g, o, none⟩) (hW g hSg)
  rw [e, hw, hw, hw]
  refine ⟨?_, ?_, ?_⟩
  · rw [← hc _ _ h0, Nat.mul_comm]
  · rw [← hc _ _ h1, Nat.mul_comm, Nat.add_assoc]
  · rw [← hc _ _ h2, Nat.mul_comm, Nat.add_assoc]
/-- A block of cells outlives the turn of what is no cells. -/
theorem kept_block {A B : World} {row : Option Nat} (hg : A.grownBy B row) (hr : ∀ r, row = some r → ∃ o : Obj, A.heap[r]? = some o ∧ o.isCells = false) {b : Nat} {c : Array Value} {t : TypeId} {f : Nat × Nat} (h : A.heap[b]? = some (.cells c t f)) : B.heap[b]? = some (.cells c t f) :=
  (hg.block b (Array.getElem?_eq_some_iff.1 h).1 (fun e => by
    obtain ⟨o, ho, hc⟩ := hr b e.symm
    rw [h] at ho
    injection ho with ho
    subst ho
    cases hc)).trans h
theorem boxRow_own {β : Type} (w : World) (base : Nat) (r : Option Nat) (out : β → List UInt8) {B : Nat} (hB : w.heap.size ≤ B) : OwnFrom B (fun (x : β) W => BoxRow w W base r (out x)) := fun s W W' row hs hg hr => by
  obtain ⟨A, c, h0, h1, h2, h3⟩ := hs
  have hr' : ∀ q, row = some q → ∃ o : Obj, W.heap[q]? = some o ∧ o.isCells = false := fun q e => (hr q e).2
  refine ⟨A, c, kept_block hg hr' h0, own_keep h1 (fun k hk => ?_), ⟨hg.os.trans h2.os, hg.tape.trans h2.tape, hg.output.trans h2.output, Nat.le_trans h2.size hg.size, fun k hk hne => ?_⟩, h3⟩
  · refine hg.block k (World.ownsRow.lt h1 k hk).2 (fun e => ?_)
    obtain ⟨o, ho, hc⟩ := hr' k e.symm
    rcases h1.2 with ⟨hv, _⟩ | ⟨b, cap, cur, hv, _, hbb, _⟩
    · rw [hv] at hk; cases hk
    · rw [hv] at hk
      have : b = k := Option.some.inj hk
      subst this
      rw [hbb] at ho
      injection ho with ho
      subst ho
      cases hc
  · refine (hg.block k (Nat.lt_of_lt_of_le hk h2.size) (fun e => ?_)).trans (h2.block k hk hne)
    have := (hr k e.symm).1
    omega
/-- One form more: b's box behind encode and the store. -/
theorem box_next {w W w1 : World} {base : Nat} {r : Option Nat} {A : Option Addr} {c : Nat} {out out' : List UInt8} {v' : Value} (hblk : W.heap[w.heap.size]? = some (.cells #[.slice A out.length c] 23 (0, 0))) (hg : w.grownBy W r) (hr : ∀ k, r = some k → k < w.heap.size)
    (hat : (Value.slice A out.length c).ownBlock = r ∨ ∃ k, w.heap.size < k ∧ (Value.slice A out.length c).ownBlock = some k)
    (ho' : M.Own w1 base v' out') (hg1 : W.grownBy w1 (Value.slice A out.length c).ownBlock) (hat1 : v'.ownBlock = (Value.slice A out.length c).ownBlock ∨ ∃ k, W.heap.size ≤ k ∧ v'.ownBlock = some k) :
    BoxRow w (w1.setCell ⟨w.heap.size, 0, none⟩ v') base r out' := by
  have hlt := (Array.getElem?_eq_some_iff.1 hblk).1
  have hne : (Value.slice A out.length c).ownBlock ≠ some w.heap.size := fun e => by
    rcases hat with h | ⟨k, hk, h⟩
    · have := hr _ (h.symm.trans e); omega
    · have := Option.some.inj (h.symm.trans e); omega
  have hb1 := (hg1.block w.heap.size hlt (fun e => hne e.symm)).trans hblk
  obtain ⟨A', c', e', _⟩ := ho'.bs
  have hat' : v'.ownBlock = r ∨ ∃ k, w.heap.size < k ∧ v'.ownBlock = some k := by
    rcases hat1 with h | ⟨k, hk, h⟩
    · rcases hat with h2 | ⟨k, hk, h2⟩
      · exact .inl (h.trans h2)
      · exact .inr ⟨k, hk, h.trans h2⟩
    · exact .inr ⟨k, by omega, h⟩
  have hne' : v'.ownBlock ≠ some w.heap.size := fun e => by
    rcases hat' with h | ⟨k, hk, h⟩
    · have := hr _ (h.symm.trans e); omega
    · have := Option.some.inj (h.symm.trans e); omega
  subst e'
  refine ⟨A', c', ?_, own_keep ho' (fun k hk => heap_set _ _ _ _ _ (fun e => hne' (hk.trans (congrArg some e.symm)))), ?_, hat'⟩
  · simp [World.setCell, Array.getElem?_modify, hb1]
  · have hs := hg.size
    have hs1 := hg1.size
    refine ⟨hg1.os.trans hg.os, hg1.tape.trans hg.tape, hg1.output.trans hg.output, by simp [World.setCell]; omega, fun k hk hkr => ?_⟩
    refine (heap_set _ _ _ _ _ (by omega)).trans ((hg1.block k (by omega) (fun e => ?_)).trans (hg.block k hk hkr))
    rcases hat with h | ⟨q, hq, h⟩
    · exact hkr (e.trans h)
    · have := Option.some.inj (e.trans h); omega
theorem forms_any (ks : List It) (hb : bulks ks ≤ 2097152) : ∀ pre : List (Fin ks.length), (formsF (pre.map fun x => ks[x.1]'x.2)).length ≤ pre.length * (7 * bulks ks)
  | [] => by simp [formsF]
  | x :: pre => by
    have h1 := forms_any ks hb pre
    have h2 := bulks_mem (List.getElem_mem x.2)
    have h3 := formF_le (ks[x.1]'x.2) (by omega)
    have h4 : (pre.length + 1) * (7 * bulks ks) = pre.length * (7 * bulks ks) + 7 * bulks ks := by rw [Nat.add_mul, Nat.one_mul]
    simp only [List.map_cons, formsF, List.length_append, List.length_cons]
    rw [h4]
    omega
theorem bulk_rest : ∀ (ks : List It) (j : Nat) (hj : j < ks.length), bulk (ks[j]'hj) + ks.length ≤ bulks ks + 1
  | k :: ks, 0, hj => by have := bulks_length ks; simp only [List.getElem_cons_zero, bulks, List.length_cons]; omega
  | k :: ks, j + 1, hj => by
    have := bulk_rest ks j (by simpa using hj)
    have := bulk_pos k
    simp only [List.getElem_cons_succ, bulks, List.length_cons]; omega
theorem round_le (n B b m h F : Nat) (h1 : b + n ≤ B + 1) (hm : m < n) (hF : F ≤ m * (7 * B)) (hh : h ≤ 6) : h + F + 7 * (b * b) ≤ 7 * ((1 + B) * (1 + B)) := by
  have e1 : m * (7 * B) = 7 * (m * B) := by rw [Nat.mul_left_comm]
  have e2 : b * b ≤ b * B := Nat.mul_le_mul_left _ (by omega)
  have e3 : b * B + m * B ≤ B * B := by rw [← Nat.add_mul]; exact Nat.mul_le_mul_right _ (by omega)
  have e4 : (1 + B) * (1 + B) = 1 + 2 * B + B * B := by rw [Nat.add_mul, Nat.one_mul, Nat.mul_add, Nat.mul_one]; omega
  omega
set_option maxRecDepth 100000 in
set_option maxHeartbeats 1000000 in
theorem enc_list (ks : List It) (ih : ∀ k ∈ ks, EncSpec k) : EncSpec (.mk 1 [] ks) := by
  intro S c0 c1 c2 bv bs base w hwf hx hS hown hbase hne hbulk hlen
  have hx' := hx
  simp only [ItemR] at hx
  obtain ⟨v, A, c, inner, e, hb, h1, h2, hr, hk⟩ := hx
  simp only [List.cons.injEq, and_true] at e
  obtain ⟨rfl, rfl, rfl⟩ := e
  obtain ⟨Ab, cb, rfl, hb1, hb2, hbR⟩ := hb
  have hbk : bulks ks ≤ 2097152 := by simp only [bulk] at hbulk; omega
  have hfl := formsF_le ks (by omega)
  have hwk : wfIs ks := by
    simp only [wfI] at hwf
    rcases hwf with h | h
    · exact absurd h.1 (by decide)
    · exact h.2.2
  have hf3 : formF (.mk 1 [] ks) = headF 192 (formsF ks).length ++ formsF ks := by simp [formF]
  have hf1 : (formF (.mk 1 [] ks)).length = (headF 192 (formsF ks).length).length + (formsF ks).length := by rw [hf3, List.length_append]
  have hf2 : (payF (.mk 1 [] ks)).length = (formsF ks).length := by simp [payF]
  have hh2 := headF_le 192 (formsF ks).length (by omega)
  have HH : Hid (∀ w, Calls Try.prog 66 #[.int .u8 192, .int .i64 ((formsF ks).length : Int)] w fun e w' => ∃ v, e = .returned v ∧ M.Own w' w.heap.size v (headF 192 (formsF ks).length) ∧ Below w.heap.size w w') := fun w => head_any 192 _ (by omega) (by omega) w
  have HS : Hid (∀ W, Below w.heap.size w W → Calls Try.prog 49 #[.agg #[.int .i64 1, .slice Ab 0 cb, .slice A ks.length c]] W fun e w' => e = .returned (.tuple #[.int .i64 (((headF 192 (formsF ks).length).length + (formsF ks).length : Nat) : Int), .int .i64 ((formsF ks).length : Int)]) ∧ Below W.heap.size W w') := fun W hW => by
    have := size49 _ S _ _ _ W hwf (ItemR.keep (fun b hb => hW.block b (hS b hb)) _ _ hx') (fun b hb => Nat.lt_of_lt_of_le (hS b hb) hW.size) (by omega)
    rw [hf1, hf2] at this
    exact this
  have HF3 := Lib.hid hf3
  have HOwn : Hid (∀ W, Below w.heap.size w W → W.ownsRow base 5 1 bv bs.length (nums bs)) := fun W hW => own_keep hown fun k hk => hW.block k (World.ownsRow.lt hown k hk).2
  obtain ⟨Av, cv, rfl⟩ : ∃ A c, bv = .slice A bs.length c := by obtain ⟨A, c, e, _⟩ := hown.bs; exact ⟨A, c, e⟩
  have hnb : Hid (∀ k, (Value.slice Av bs.length cv).ownBlock = some k → k < w.heap.size) := fun k hk => (World.ownsRow.lt hown k hk).2
  have hl2 : Hid (bs.length + 7 * bulks ks + 7 ≤ 140737488355000) := (show _ ≤ _ from by
    simp only [bulk, List.length_nil, Nat.zero_add] at hlen
    have := Nat.le_mul_self (1 + bulks ks)
    omega)
  have hl3 : Hid (bs.length + 7 * ((1 + bulks ks) * (1 + bulks ks)) ≤ 140737488355000) := (show _ ≤ _ from by simpa only [bulk, List.length_nil, Nat.zero_add] using hlen)
  have HSS := Lib.hid hS
  have HNE := Lib.hid hne
  have Hih := Lib.hid ih
  have Hr := Lib.hid hr
  have Hk := Lib.hid hk
  have Hwk := Lib.hid hwk
  have Hbk := Lib.hid hbk
  have Hfl := Lib.hid hfl
  have Hh2 := Lib.hid hh2
  clear hx' hbR hr hk hS hown hne hf1 hf2 hf3 hwf hbulk hlen ih hwk hbk hfl hh2
  refine (callsIn_wide (n := 6)).1 ?_
  refine callsIn_of_wp_marks Try.func47 rfl trivial ?_ rfl
  refine wpIn_wide.2 ?_
  simp only [Try.ntmps47, List.size_toArray, List.length_cons, List.length_nil, Nat.reduceAdd, Nat.reduceSub, Array.replicate_succ, Array.replicate_zero, List.push_toArray, List.append_toArray, List.nil_append, List.cons_append]
  go_wp2_with (first
    | (go_at_call 49; refine (HS.out _ (by go_grown)).mono ?_
       rintro e w1 ⟨rfl, hbl⟩
       have hx0 := (hbl.block w.heap.size (by simp only [size_alloc]; omega)).trans (show _ = some (Obj.cells #[.slice Av bs.length cv] 23 (0, 0)) from by rw [heap_alloc, if_neg (by rw [size_alloc]; omega), heap_alloc, if_pos rfl])
       have hx1 := (hbl.block (w.heap.size + 1) (by simp only [size_alloc]; omega)).trans (show _ = some (Obj.cells #[.int .i64 1, .slice Ab 0 cb, .slice A ks.length c] 27 (0, 0)) from by rw [heap_alloc, if_pos (by rw [size_alloc])])
       obtain ⟨y0, y1, y2, y3⟩ := block_cells hx1
       have HX1 := Lib.hid (show _ ∧ w.heap.size + 1 < w1.heap.size from ⟨hx1, (Array.getElem?_eq_some_iff.1 hx1).1⟩)
       have zf : w1.frozen? ⟨w.heap.size, 0, none⟩ = false := by simp [World.frozen?, hx0]
       have z0 : w1.cell? ⟨w.heap.size, 0, none⟩ = some (.slice Av bs.length cv) := by simp [World.cell?, hx0]
       have HB1 : Hid (Below w.heap.size w w1) := (((Below.refl _ w).alloc (Nat.le_refl _) _).alloc (by rw [size_alloc]; omega) _).trans (hbl.mono (by simp only [size_alloc]; omega))
       have HX0 := Lib.hid hx0
       clear hbl hx0 hx1))
  go_cut [] from 27 to 30 (fun wx => BoxRow w wx base (Value.slice Av bs.length cv).ownBlock (bs ++ headF 192 (formsF ks).length) ∧ wx.heap[w.heap.size + 1]? = some (.cells #[.int .i64 1, .slice Ab 0 cb, .slice A ks.length c] 27 (0, 0)))
  case first =>
    refine wp_region_noPanic ?_
    go_region_law
      (first
        | (go_simp; go_at_call 66; refine (HH.out _).mono ?_
           rintro e w2 ⟨hv, rfl, ho, hbl2⟩
           obtain ⟨Ah, ch, rfl, hq1, hq2, hq3⟩ := ho.bs
           have hbl3 := undrew hbl2
           have hz1 := HB1.out.size
           have hx2 := (hbl3.block (w.heap.size + 1) (by show _ < w1.heap.size; exact HX1.out.2)).trans HX1.out.1
           obtain ⟨x0, x1, x2, x3⟩ := block_cells hx2
           have z1 := (hbl3.cell (p := ⟨w.heap.size, 0, none⟩) (show w.heap.size < w1.heap.size by have := HX1.out.2; omega)).trans z0
           have z2 := (hbl3.frozen (p := ⟨w.heap.size, 0, none⟩) (show w.heap.size < w1.heap.size by have := HX1.out.2; omega)).trans zf
           have HB2 : Hid (Below w.heap.size w w2) := HB1.out.trans (hbl3.mono (by show w.heap.size ≤ w1.heap.size; omega))
           have HRH := Lib.hid hq3
           have HX2 := Lib.hid hx2
           have HX02 := Lib.hid ((hbl3.block w.heap.size (by show _ < w1.heap.size; have := HX1.out.2; omega)).trans HX0.out)
           clear ho hq3 hbl2 hbl3 hx2)
        | (refine step_append_any _ rfl (.tmp 27) (.tmp 29) 23 5 (.int .u8 0) 1 1 rfl Try.underlying23 M.info5 rfl (Nat.succ_pos _) base _ _ (.slice Av bs.length cv) bs.length (nums bs) Ah (headF 192 (formsF ks).length).length ch (nums (headF 192 (formsF ks).length)) rfl rfl (HOwn.out _ HB2.out) HRH.out (nums_one _) (by have := hl2.out; have := Hh2.out; simp only [maxLen]; omega) (by have := hl2.out; have := Hh2.out; omega) (Nat.le_trans hbase HB2.out.size) ?_
           intro v' w3 hown3 hgrow3 hat3
           obtain ⟨A3, c3, rfl⟩ : ∃ A c, v' = .slice A (bs.length + (headF 192 (formsF ks).length).length) c := by
             rcases hown3.2 with ⟨hv, h0⟩ | ⟨b, cap, cur, hv, _⟩
             · exact ⟨none, 0, by rw [hv, h0]⟩
             · exact ⟨_, _, hv⟩
           have hw2 := (Array.getElem?_eq_some_iff.1 HX2.out).1
           have t0 : w3.cell? ⟨w.heap.size, 0, none⟩ = some (.slice Av bs.length cv) := (World.cell?_of_block (w := w2) (a := ⟨w.heap.size, 0, none⟩) (hgrow3.block w.heap.size (by omega) (fun e => by have := hnb.out _ e.symm; omega))).trans z1
           have t1 : w3.frozen? ⟨w.heap.size, 0, none⟩ = false := (World.frozen?_of_block (w := w2) (a := ⟨w.heap.size, 0, none⟩) (hgrow3.block w.heap.size (by omega) (fun e => by have := hnb.out _ e.symm; omega))).trans z2
           have hx3 := (hgrow3.block (w.heap.size + 1) (by omega) (fun e => by have := hnb.out _ e.symm; omega)).trans HX2.out
           obtain ⟨u0, u1, u2, u3⟩ := block_cells hx3
           have HX3 := Lib.hid hx3
           have HX03 := Lib.hid ((hgrow3.block w.heap.size (by omega) (fun e => by have := hnb.out _ e.symm; omega)).trans HX02.out)
           clear hx3
           have HOWN3 := Lib.hid hown3
           have HGROW3 := Lib.hid hgrow3
           have HAT3 := Lib.hid hat3
           clear hown3 hgrow3 hat3))

    all_goals refine NoPanic.normal ?_
    all_goals go_wp2_with fail
    all_goals go_meet
    all_goals
      have e5 : bs.length + (headF 192 (formsF ks).length).length = (bs ++ headF 192 (formsF ks).length).length := by simp
      have N5 : Hid ((Value.slice A3 (bs.length + (headF 192 (formsF ks).length).length) c3).ownBlock ≠ some w.heap.size) := fun e => by
        rcases HAT3.out with h | h
        · have := hnb.out _ (h.symm.trans e); omega
        · have h9 : w2.heap.size = w.heap.size := Option.some.inj (h.symm.trans e); omega
      have hs2 := HB2.out.size
      have hs3 := HGROW3.out.size
      have HO3 := HOWN3.out
      have HN5 := N5.out
      have HA3 := HAT3.out
      rw [e5, ← nums_append] at HO3
      rw [e5] at HN5 HA3 ⊢
      refine ⟨⟨A3, c3, ?_, own_keep HO3 (fun k hk => heap_set _ _ _ _ _ (fun e => HN5 (hk.trans (congrArg some e.symm)))), ?_, ?_⟩, (heap_set _ _ _ _ _ (by omega)).trans HX3.out⟩
      · simp [World.setCell, Array.getElem?_modify, HX03.out]
      · refine ⟨HGROW3.out.os.trans HB2.out.os, HGROW3.out.tape.trans HB2.out.tape, HGROW3.out.output.trans HB2.out.output, by simp [World.setCell]; omega, fun k hk hr => ?_⟩
        exact (heap_set _ _ _ _ _ (by omega)).trans ((HGROW3.out.block k (by omega) hr).trans (HB2.out.block k hk))
      · rcases HA3 with h | h
        · exact .inl h
        · exact .inr ⟨_, by omega, h⟩
  case rest =>
    obtain ⟨⟨A3, c3, hx0, ho3, hg3, hat3⟩, hx1⟩ := hcut
    have z0' : wc.cell? ⟨w.heap.size, 0, none⟩ = some (.slice A3 (bs ++ headF 192 (formsF ks).length).length c3) := by simp [World.cell?, hx0]
    obtain ⟨x0, x1, x2, x3⟩ := block_cells hx1
    have HX0' := Lib.hid hx0
    have HO3 := Lib.hid ho3
    have HG3 := Lib.hid hg3
    have HA3 := Lib.hid hat3
    have HX1' := Lib.hid hx1
    have HKids := fun w => Lib.hid (H1.kids65 1 (.slice Ab 0 cb) A ks.length c ⟨_, _, _, rfl⟩ w)
    clear hx0 ho3 hg3 hat3 hx1
    go_wp2_with (first | (go_at_call 65; refine (HKids _).out.mono ?_; rintro e w' ⟨rfl, rfl⟩))
    obtain ⟨raw, hraw⟩ := H2.kids_raws Hk.out
    have HRaw := Lib.hid hraw
    clear hraw
    have hgw := HG3.out.size
    have hcs : ∀ b, S b → wc.heap[b]? = w.heap[b]? := fun b hb => HG3.out.block b (HSS.out b hb) (fun e => HNE.out b hb e.symm)
    have c3' : ((wc.alloc (.cells #[.int .i64 1, .slice Ab 0 cb, .slice A ks.length c] 27)).alloc (.cells #[.slice A ks.length c] 25)).cell? ⟨wc.heap.size + 1, 0, none⟩ = some (.slice A (List.finRange ks.length).length c) := by rw [List.length_finRange]; simp [go_sem]
    have hRR : H4.Raws raw S ((wc.alloc (.cells #[.int .i64 1, .slice Ab 0 cb, .slice A ks.length c] 27)).alloc (.cells #[.slice A ks.length c] 25)) A (List.finRange ks.length) := raws_ofT Hr.out raw (fun j => ⟨(HRaw.out j).1, (HRaw.out j).2.1, (HRaw.out j).2.2.1⟩) _ (fun b hb => ((Below.heap_alloc _ _ _ (by have := HSS.out b hb; rw [size_alloc]; omega)).trans (Below.heap_alloc _ _ _ (by have := HSS.out b hb; omega))).trans (hcs b hb))
    refine (wpIn_wide (n := 6)).1 ?_
    refine wpIn_rangeFunc_ownH rfl (by omega) (gf := 75) (lb := #[.pointer (some ⟨wc.heap.size + 1, 0, none⟩)]) rfl trivial (enters_of Try.func75 (by kernel_rfl) rfl)
      (H4.values_stops raw Fence.wide 5 trivial rfl (by omega) (wc.heap.size + 1) c S A (List.finRange ks.length) (by rw [List.length_finRange]; have := bulks_length ks; have := Hbk.out; omega) _ (by simp) (fun k hk => by have := HSS.out k hk; simp only [size_alloc]; omega) c3' hRR) (fun h k => h.trans k) (H4.keepT_b (fun k hk => by have := HSS.out k hk; simp only [size_alloc]; omega)) (Below.refl _ _) (fun _ => rfl)
      (fun pre W => BoxRow w W base (Value.slice Av bs.length cv).ownBlock (bs ++ headF 192 (formsF ks).length ++ formsF (pre.map fun x => ks[x.1]'x.2)))
      (fun _ _ _ => False)
      (boxRow_own w base _ _ (by simp only [size_alloc]; omega))
      (fun c s A B row hs hg hr => hs)
      (boxRow_own (B := w.heap.size) w base _ (fun _ : Unit => bs ++ headF 192 (formsF ks).length ++ formsF (([] : List (Fin ks.length)).map fun x => ks[x.1]'x.2)) (Nat.le_refl _) () wc _ none (by simp only [List.map_nil, formsF, List.append_nil]; exact ⟨A3, c3, HX0'.out, HO3.out, HG3.out, HA3.out⟩) ⟨rfl, rfl, rfl, by simp only [size_alloc]; omega, fun k hk _ => (Below.heap_alloc _ _ _ (by rw [size_alloc]; omega)).trans (Below.heap_alloc _ _ _ hk)⟩ (fun r e => by cases e))
      (fun x a' W => ∃ Bx, w.heap.size < Bx ∧ W.heap[Bx]? = some (.cells #[.int .i64 (raw x).l, .slice (raw x).A (raw x).n (raw x).c, .slice (raw x).B (raw x).m (raw x).d] 27 (0, 0)) ∧ a' = { tmps := #[.slice Av bs.length cv, .agg #[.int .i64 1, .slice Ab 0 cb, .slice A ks.length c], .pointer (some ⟨w.heap.size, 0, none⟩), .pointer (some ⟨w.heap.size + 1, 0, none⟩), .slice none 0 0, .int .i64 (((headF 192 (formsF ks).length).length : Int) + ((formsF ks).length : Int)), .int .i64 ((formsF ks).length : Int), .pointer (some ⟨Bx, 0, none⟩), .tuple #[.int .i64 (((headF 192 (formsF ks).length).length : Int) + ((formsF ks).length : Int)), .int .i64 ((formsF ks).length : Int)], .agg #[.int .i64 1, .slice Ab 0 cb, .slice A ks.length c], .tuple #[.int .i64 (((headF 192 (formsF ks).length).length : Int) + ((formsF ks).length : Int)), .int .i64 ((formsF ks).length : Int)], .int .i64 (((headF 192 (formsF ks).length).length : Int) + ((formsF ks).length : Int)), .int .i64 ((formsF ks).length : Int), .pointer (some ⟨w.heap.size + 1, 0, none⟩), .int .i64 1, .bool false, undef, undef, undef, undef, undef, undef, undef, undef, undef, undef, undef, u27, u28, u29, u30, .agg #[.int .i64 1, .slice Ab 0 cb, .slice A ks.length c], .func (.func 75) #[] #[.pointer (some ⟨wc.heap.size + 1, 0, none⟩)], .agg #[.int .i64 (raw x).l, .slice (raw x).A (raw x).n (raw x).c, .slice (raw x).B (raw x).m (raw x).d], undef, undef, undef, undef], defers := [] })
      (fun x a' s A B row hs hg hr => by obtain ⟨Bx, h0, h1, h2⟩ := hs; exact ⟨Bx, h0, kept_block hg (fun q e => (hr q e).2) h1, h2⟩) ?assign ?body ?done ?stop
    case assign =>
      rintro l pre x W K hI hK
      have hws : w.heap.size < W.heap.size := by obtain ⟨_, _, h0, _⟩ := hI; exact (Array.getElem?_eq_some_iff.1 h0).1
      gi_wp2
      refine hK _ _ ((KeepsOthers.alloc _ _).from _) ((H4.KeepT.refl _ W).alloc (fun k hk => by have := HSS.out k hk; omega) _) ?_ ⟨W.heap.size, hws, by rw [heap_alloc, if_pos rfl], rfl⟩
      exact boxRow_own (B := w.heap.size) w base _ (fun _ : Unit => bs ++ headF 192 (formsF ks).length ++ formsF (pre.map fun x => ks[x.1]'x.2)) (Nat.le_refl _) () W _ none hI ⟨rfl, rfl, rfl, by simp only [size_alloc]; omega, fun k hk _ => Below.heap_alloc _ _ _ hk⟩ (fun r e => by cases e)
    case body =>
      rintro l pre x a' W hl ⟨rl, hrl⟩ hI ⟨Bx, hBx, hblkx, rfl⟩ hlt
      have hl5 : (bs ++ headF 192 (formsF ks).length ++ formsF (pre.map fun x => ks[x.1]'x.2)).length = bs.length + (headF 192 (formsF ks).length).length + (formsF (pre.map fun x => ks[x.1]'x.2)).length := by simp only [List.length_append]
      have e6 : bs ++ headF 192 (formsF ks).length ++ formsF ((pre ++ [x]).map fun x => ks[x.1]'x.2) = bs ++ headF 192 (formsF ks).length ++ formsF (pre.map fun x => ks[x.1]'x.2) ++ formF (ks[x.1]'x.2) := by
        rw [List.map_append, formsF_append]; simp [formsF]
      have hpre : Hid ((bs ++ headF 192 (formsF ks).length ++ formsF (pre.map fun x => ks[x.1]'x.2)).length + 7 * (bulk (ks[x.1]'x.2) * bulk (ks[x.1]'x.2)) ≤ 140737488355000) := by
        have hlt' : pre.length < ks.length := by rwa [List.length_finRange] at hlt
        have h1 := bulk_rest ks x.1 x.2
        have h2 := forms_any ks Hbk.out pre
        have h3 := round_le _ _ _ _ _ _ h1 hlt' h2 Hh2.out
        have h4 := hl3.out
        have h5 : (bs ++ headF 192 (formsF ks).length ++ formsF (pre.map fun x => ks[x.1]'x.2)).length + 7 * (bulk (ks[x.1]'x.2) * bulk (ks[x.1]'x.2)) ≤ 140737488355000 := by rw [hl5]; omega
        exact h5
      have E6 := Lib.hid e6
      clear e6 hl5
      generalize bs ++ headF 192 (formsF ks).length ++ formsF (pre.map fun x => ks[x.1]'x.2) = out at hI hpre E6
      obtain ⟨A4, c4, hblk, ho4, hg4, hat4⟩ := hI
      have hws := (Array.getElem?_eq_some_iff.1 hblk).1
      have hwx := (Array.getElem?_eq_some_iff.1 hblkx).1
      obtain ⟨b0, b1, b2, b3⟩ := block_cells hblkx
      have z4 : W.cell? ⟨w.heap.size, 0, none⟩ = some (.slice A4 out.length c4) := by simp only [World.cell?, hblk]; rfl
      have hne4 : (Value.slice A4 out.length c4).ownBlock ≠ some w.heap.size := fun e => by
        rcases hat4 with h | ⟨k, hk, h⟩
        · have := hnb.out _ (h.symm.trans e); omega
        · have := Option.some.inj (h.symm.trans e); omega
      have hS4 : ∀ b, S b → W.heap[b]? = w.heap[b]? := fun b hb => hg4.block b (HSS.out b hb) (fun e => HNE.out b hb e.symm)
      have HC : Hid (∀ bv, bv = Value.slice A4 out.length c4 → Calls Try.prog 47 #[bv, .agg #[.int .i64 (raw x).l, .slice (raw x).A (raw x).n (raw x).c, .slice (raw x).B (raw x).m (raw x).d]] W fun e w' => ∃ A5 n5 c5, e = .returned (.slice A5 n5 c5) ∧ M.Own w' base (.slice A5 n5 c5) (out ++ formF (ks[x.1]'x.2)) ∧ W.grownBy w' (Value.slice A4 out.length c4).ownBlock ∧ ((Value.slice A5 n5 c5).ownBlock = (Value.slice A4 out.length c4).ownBlock ∨ ∃ k, W.heap.size ≤ k ∧ (Value.slice A5 n5 c5).ownBlock = some k)) := fun bv hbv => by
        subst hbv
        have h5 := Hih.out _ (List.getElem_mem x.2) S _ _ _ _ _ base W (wfIs_mem Hwk.out _ (List.getElem_mem x.2)) (ItemR.keep (fun b hb => hS4 b hb) _ _ (HRaw.out x).2.2.2) (fun b hb => Nat.lt_of_lt_of_le (HSS.out b hb) hg4.size) ho4 (Nat.le_trans hbase hg4.size) (fun b hb e => by
          rcases hat4 with h | ⟨k, hk, h⟩
          · exact HNE.out b hb (h.symm.trans e)
          · have := Option.some.inj (h.symm.trans e); have := HSS.out b hb; omega) (Nat.le_trans (bulks_mem (List.getElem_mem x.2)) Hbk.out) hpre.out
        refine h5.mono ?_
        rintro e w' ⟨v', he, hO, hG, hA⟩
        obtain ⟨A5, c5, rfl, _⟩ := hO.bs
        exact ⟨A5, _, c5, he, hO, hG, hA⟩
      have z5 : W.frozen? ⟨w.heap.size, 0, none⟩ = false := by simp only [World.frozen?, hblk]; rfl
      have HO4 := Lib.hid ho4
      have HG4 := Lib.hid hg4
      have HA4 := Lib.hid hat4
      have HB4 := Lib.hid hblk
      have HN4 := Lib.hid hne4
      have HS4 := Lib.hid hS4
      clear ho4 hg4 hat4 hblk hne4 hS4 hblkx
      gi_wp2_with (first | (refine ⟨trivial, ?_⟩; gi_at_call 47; refine (CallsIn.inRound l (callsIn_wide.2 (HC.out _ rfl))).mono ?_; rintro e w5 ⟨A5, n5, c5, rfl, ho5, hg5, hat5⟩; have y1 := (World.cell?_of_block (w := W) (a := ⟨w.heap.size, 0, none⟩) (hg5.block w.heap.size hws (fun e => HN4.out e.symm))).trans z4; have y2 := (World.frozen?_of_block (w := W) (a := ⟨w.heap.size, 0, none⟩) (hg5.block w.heap.size hws (fun e => HN4.out e.symm))).trans z5; have HO5 := Lib.hid ho5; have HG5 := Lib.hid hg5; have HA5 := Lib.hid hat5; clear ho5 hg5 hat5))
      refine ⟨⟨?_, fun k o hk ho hc => ?_⟩, ⟨?_, fun k hk => ?_⟩, (congrArg (BoxRow w _ base _) E6.out).mpr (box_next HB4.out HG4.out hnb.out HA4.out HO5.out HG5.out HA5.out)⟩
      · simpa [World.setCell] using HG5.out.size
      · have hkW := (Array.getElem?_eq_some_iff.1 ho).1
        have hkn : some k ≠ (Value.slice A4 out.length c4).ownBlock := fun e => by
          rcases HO4.out.2 with ⟨hv, _⟩ | ⟨b, cap, cur, hv, _, hbb, _⟩
          · rw [hv] at e; cases e
          · rw [hv] at e
            have : k = b := Option.some.inj e
            subst this
            rw [hbb] at ho
            injection ho with ho
            subst ho
            cases hc
        have hkb : w.heap.size ≠ k := fun e => by
          subst e
          rw [HB4.out] at ho
          injection ho with ho
          subst ho
          cases hc
        exact (heap_set _ _ _ _ _ hkb).trans ((HG5.out.block k hkW hkn).trans ho)
      · simpa [World.setCell] using HG5.out.size
      · have hkw := HSS.out k hk
        refine (heap_set _ _ _ _ _ (by omega)).trans (HG5.out.block k (by omega) (fun e => ?_))
        rcases HA4.out with h | ⟨q, hq, h⟩
        · exact HNE.out k hk (h.symm.trans e.symm)
        · have := Option.some.inj (e.trans h); omega
    case done =>
      rintro D ys W hD rfl hI hK
      have e7 : (List.finRange ks.length).map (fun x => ks[x.1]'x.2) = ks := List.ext_getElem (by simp) (fun i h1 h2 => by simp)
      have e8 : bs ++ formF (.mk 1 [] ks) = bs ++ headF 192 (formsF ks).length ++ formsF ((List.finRange ks.length).map fun x => ks[x.1]'x.2) := by rw [e7, HF3.out, List.append_assoc]
      have E8 := Lib.hid e8
      clear e7 e8
      have HI' := Lib.hid (boxRow_own (B := w.heap.size) w base (Value.slice Av bs.length cv).ownBlock (fun _ : Unit => bs ++ headF 192 (formsF ks).length ++ formsF ((List.finRange ks.length).map fun x => ks[x.1]'x.2)) (Nat.le_refl _) () W _ _ hI (grownBy_putObj' W D (.deferred none)) (fun r e => by cases e; exact ⟨by simp only [size_alloc] at hD; omega, _, hK, rfl⟩))
      generalize bs ++ headF 192 (formsF ks).length ++ formsF ((List.finRange ks.length).map fun x => ks[x.1]'x.2) = out at hI HI' E8
      obtain ⟨A4, c4, hblk, ho4, hg4, hat4⟩ := hI
      have z4 : W.cell? ⟨w.heap.size, 0, none⟩ = some (.slice A4 out.length c4) := by simp only [World.cell?, hblk]; rfl
      have HB4 := Lib.hid hblk
      clear ho4 hg4 hat4 hblk
      go_wp2
      refine ⟨by simp, .inl ⟨_, _, rfl, run_takeDeferred hK, ?_⟩⟩
      obtain ⟨A5, c5, hblk5, ho5, hg5, hat5⟩ := HI'.out
      have e9 := (kept_block (grownBy_putObj' W D (.deferred none)) (fun r e => by cases e; exact ⟨_, hK, rfl⟩) HB4.out).symm.trans hblk5
      simp only [Option.some.injEq, Obj.cells.injEq, Value.slice.injEq, Array.mk.injEq, List.cons.injEq, and_true, true_and] at e9
      obtain ⟨rfl, rfl⟩ := e9
      refine ⟨.slice A4 out.length c4, by simp [results, Try.results47, go_sem], ?_⟩
      rw [E8.out]
      refine ⟨_, rfl, ho5, hg5, ?_⟩
      rcases hat5 with h | ⟨k, hk, h⟩
      · exact .inl h
      · exact .inr ⟨k, by omega, h⟩
    case stop =>
      rintro D c pre W hD hpre h hK
      exact h.elim
end Go.Proofs.Ytkdpphcalekbdaa.E3
