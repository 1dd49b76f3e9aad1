/- The document's makers: Text, Number, Whole, List. -/
import Derived.Test.YtkdpphcalekbdaaS5
set_option linter.unusedVariables false
set_option linter.unusedSimpArgs false
namespace Go.Proofs.Ytkdpphcalekbdaa.S6
open Go.ChangeShapes Go.WideShapes Go.ChangeAt Go.RowKit
open M W1 F1
theorem text_item {w w1 : World} {v : Value} {bs : List UInt8} (ho : M.Own w1 (w.heap.size + 1) v bs) : ∃ A c, v = .slice A bs.length c ∧ BsS w1 (Btw (w.heap.size + 1) w1.heap.size) (.slice A bs.length c) bs := by
  have h3 : BsS w1 (Btw (w.heap.size + 1) w1.heap.size) v bs := ho.bs.toS fun b h1 h2 => ⟨h1, h2⟩
  obtain ⟨A, c, rfl, _⟩ := ho.bs
  exact ⟨A, c, rfl, h3⟩
theorem kids_one {w : World} {S : Nat → Prop} : ∀ (ks : List It) (cs : List Value), KidsR w S ks cs → ∀ u ∈ cs, u.oneCell' = true
  | [], cs, h, u, hu => by
    simp only [KidsR] at h
    subst h
    cases hu
  | k :: ks, cs, h, u, hu => by
    simp only [KidsR] at h
    obtain ⟨c0, rest, rfl, hi, hr⟩ := h
    rcases List.mem_append.1 hu with h | h
    · exact hi.one u h
    · exact kids_one ks rest hr u h
set_option maxRecDepth 100000 in
set_option maxHeartbeats 1000000 in
theorem rText42 (lo hi : Nat) (v : Value) (bs : List UInt8) (w : World) (hb : Bs w lo hi v bs) (hhi : hi ≤ w.heap.size) (hn : bs.length ≤ 140737488355328) :
    Calls Try.prog 42 #[v] w fun e w' => ∃ d1, e = .returned (.agg #[.int .i64 0, d1, .slice none 0 0]) ∧ ItemR w' (Btw w.heap.size w'.heap.size) (.mk 0 bs []) [.int .i64 0, d1, .slice none 0 0] ∧ Below w.heap.size w w' := by
  have HV : Hid (∀ W, Below w.heap.size w W → Bs W lo hi v bs) := fun W hW => hb.keep (Same.of_below hW hhi)
  obtain ⟨A, c, rfl, h1, h2, hR⟩ := hb
  have HR : Hid (∀ W, Below w.heap.size w W → Rd W lo hi 1 A bs.length (nums bs)) := fun W hW => hR.keep (Same.of_below hW hhi)
  clear hR
  have HN := Lib.hid hn
  clear hn
  have HO : Hid (((w.alloc (.cells #[.int .i64 0, .slice none 0 0, .slice none 0 0] 27)).alloc (.cells #[] 5)).ownsRow (w.heap.size + 1) 5 1 (.slice (some ⟨w.heap.size + 1, 0, none⟩) 0 0) 0 []) := by
    have h := own_empty (w.alloc (.cells #[.int .i64 0, .slice none 0 0, .slice none 0 0] 27)) (w.heap.size + 1) (by rw [size_alloc]; omega)
    rwa [size_alloc] at h
  go_enter Try.func42, Try.ntmps42
  go_wp2_with (first
    | (at_builtin
       refine wp_append rfl (.tmp 3) (.tmp 4) 23 5 (.int .u8 0) 1 1 rfl Try.underlying23 M.info5 rfl (by omega) (w.heap.size + 1) lo hi _ 0 [] A bs.length c (nums bs) rfl rfl HO.out (HR.out _ (by go_grown)) (nums_one _) (by have := HN.out; simp only [maxLen]; omega) (by have := HN.out; omega) (by simp only [size_alloc]; omega) ?_
       intro v' w2 hown2 hgrow2 hat2
       have hown3 : M.Own w2 (w.heap.size + 1) v' bs := (show M.Own w2 (w.heap.size + 1) v' bs from by
         simp only [Nat.zero_add, List.nil_append] at hown2
         exact hown2)
       obtain ⟨Ao, co, rfl, hq1, hq2, hq3⟩ := hown3.bs
       have HO2 := Lib.hid hown3
       have hx := (hgrow2.block w.heap.size (by simp only [size_alloc]; omega) (fun e => by have := (World.ownsRow.lt HO.out _ e.symm).1; omega)).trans (show _ = some (Obj.cells #[.int .i64 0, .slice none 0 0, .slice none 0 0] 27 (0, 0)) by rw [heap_alloc, if_neg (by rw [size_alloc]; omega), heap_alloc, if_pos rfl])
       obtain ⟨y0, y1, y2, y3⟩ := block_cells hx
       have HB2 : Hid (Below w.heap.size w w2) := (((Below.refl _ w).alloc (Nat.le_refl _) _).alloc (by rw [size_alloc]; omega) _).grown hgrow2 (by simp only [size_alloc]; omega) (fun b hb => by have := (World.ownsRow.lt HO.out b hb).1; omega)
       clear hown2 hown3 hgrow2 hat2 hx hq3))
  refine bodyPost_ret (v := .agg #[.int .i64 0, .slice Ao bs.length co, .slice none 0 0]) (by simp [results, Try.results42, go_sem, y0, y1, y2]) rfl ?_
  refine ⟨_, rfl, ?_, ((HB2.out.setCell (Nat.le_refl _) _).setCell (Nat.le_refl _) _).setCell (Nat.le_refl _) _⟩
  simp only [ItemR]
  refine ⟨_, none, 0, [], rfl, ?_, by simp, by omega, ⟨rfl, fun h => absurd h (by simp)⟩, rfl⟩
  have h3 : BsS w2 (Btw (w.heap.size + 1) w2.heap.size) (.slice Ao bs.length co) bs := HO2.out.bs.toS fun b h1 h2 => ⟨h1, h2⟩
  refine (h3.keep fun b hb => ?_).wide fun b hb => ⟨by have := hb.1; omega, by simpa [World.setCell] using hb.2⟩
  have hb1 : w.heap.size ≠ b := by have := hb.1; omega
  simp (disch := exact hb1) only [heap_set]
set_option maxRecDepth 100000 in
set_option maxHeartbeats 1000000 in
theorem rNumber39 (n : Int) (hn : U64 n) (w : World) :
    Calls Try.prog 39 #[.int .u64 n] w fun e w' => ∃ d0 d1 d2, e = .returned (.agg #[d0, d1, d2]) ∧ ItemR w' (Btw w.heap.size w'.heap.size) (.mk 0 (digits n.toNat) []) [d0, d1, d2] ∧ Below w.heap.size w w' := by
  obtain ⟨n, rfl⟩ := Int.eq_ofNat_of_zero_le hn.1
  have hl : n < 18446744073709551616 := by have := hn.2; omega
  have H63 := Lib.hid (refLeast_any (n : Int) 0 0 0 (u64_nat hl) u64_zero u64_zero u64_zero)
  rw [val_zero] at H63
  have hdl : (digits n).length ≤ 8 := digits_length_le (by omega)
  have HDL : Hid ((digits n).length ≤ 140737488355328) := (show _ ≤ _ from by omega)
  rw [show ((n : Int)).toNat = n from by omega]
  generalize digits n = dg at *
  clear hdl hn
  go_enter Try.func39, Try.ntmps39
  go_wp2_with (first
    | (go_at_call 64; refine (refOf_any _ _).mono ?_
       rintro e w1 ⟨rfl, hb1⟩
       have HB1 : Hid (Below w.heap.size w w1) := ((Below.refl _ w).alloc (Nat.le_refl _) _).trans (hb1.mono (by rw [size_alloc]; omega))
       have HX1 : Hid (w1.heap[w.heap.size]? = some (.cells #[.int .i64 0, .slice none 0 0, .slice none 0 0] 27 (0, 0))) := (hb1.block w.heap.size (by rw [size_alloc]; omega)).trans (by rw [heap_alloc, if_pos rfl])
       clear hb1)
    | (go_at_call 63; refine (H63.out _).mono ?_
       rintro e w2 ⟨v', rfl, ho, hb2⟩
       have HO := Lib.hid ho.bs
       have HB2 : Hid (Below w.heap.size w w2) := HB1.out.trans (hb2.mono HB1.out.size)
       have HX2 : Hid (w2.heap[w.heap.size]? = some (.cells #[.int .i64 0, .slice none 0 0, .slice none 0 0] 27 (0, 0))) := (hb2.block w.heap.size (Array.getElem?_eq_some_iff.1 HX1.out).1).trans HX1.out
       clear ho hb2)
    | (go_at_call 42; refine (rText42 _ _ _ dg _ HO.out (Nat.le_refl _) HDL.out).mono ?_
       rintro e w3 ⟨d1, rfl, hit, hb3⟩
       obtain ⟨_, ⟨fA, fn, fc, rfl⟩, _⟩ := item_shape hit
       have HIT := Lib.hid hit
       have HB3 : Hid (Below w.heap.size w w3) := HB2.out.trans (hb3.mono HB2.out.size)
       have hx := (hb3.block w.heap.size (Array.getElem?_eq_some_iff.1 HX2.out).1).trans HX2.out
       obtain ⟨y0, y1, y2, y3⟩ := block_cells hx
       have HZ : Hid (w.heap.size < w2.heap.size) := (Array.getElem?_eq_some_iff.1 HX2.out).1
       clear hit hb3 hx))
  refine bodyPost_ret (v := .agg #[.int .i64 0, .slice fA fn fc, .slice none 0 0]) (by simp [results, Try.results39, go_sem, y0, y1, y2]) rfl ?_
  refine ⟨_, _, _, rfl, ItemR.wide (fun b hb => ⟨by have := hb.1; have := HZ.out; omega, by simpa [World.setCell] using hb.2⟩) _ _ (ItemR.keep (fun b hb => ?_) _ _ HIT.out), ((HB3.out.setCell (Nat.le_refl _) _).setCell (Nat.le_refl _) _).setCell (Nat.le_refl _) _⟩
  have hb1 : w.heap.size ≠ b := by have := hb.1; have := HZ.out; omega
  simp (disch := exact hb1) only [heap_set]
set_option maxRecDepth 100000 in
set_option maxHeartbeats 1000000 in
theorem rWhole40 (a b c d : Int) (ha : U64 a) (hb : U64 b) (hc : U64 c) (hd : U64 d) (w : World) :
    Calls Try.prog 40 #[.agg #[.int .u64 a, .int .u64 b, .int .u64 c, .int .u64 d]] w fun e w' => ∃ d0 d1 d2, e = .returned (.agg #[d0, d1, d2]) ∧ ItemR w' (Btw w.heap.size w'.heap.size) (.mk 0 (digits (val a b c d)) []) [d0, d1, d2] ∧ Below w.heap.size w w' := by
  have H63 := Lib.hid (refLeast_any a b c d ha hb hc hd)
  have hdl : (digits (val a b c d)).length ≤ 32 := digits_length_le (T3.val_lt a b c d ha hb hc hd)
  have HDL : Hid ((digits (val a b c d)).length ≤ 140737488355328) := (show _ ≤ _ from by omega)
  generalize digits (val a b c d) = dg at *
  clear hdl
  go_enter Try.func40, Try.ntmps40
  go_wp2_with (first
    | (go_at_call 63; refine (H63.out _).mono ?_
       rintro e w2 ⟨v', rfl, ho, hb2⟩
       have HO := Lib.hid ho.bs
       have HB2 : Hid (Below w.heap.size w w2) := (((Below.refl _ w).alloc (Nat.le_refl _) _).alloc (by rw [size_alloc]; omega) _).trans (hb2.mono (by simp only [size_alloc]; omega))
       have HX2 : Hid (w2.heap[w.heap.size + 1]? = some (.cells #[.int .i64 0, .slice none 0 0, .slice none 0 0] 27 (0, 0))) := (hb2.block (w.heap.size + 1) (by simp only [size_alloc]; omega)).trans (by rw [heap_alloc, if_pos (by rw [size_alloc])])
       clear ho hb2)
    | (go_at_call 42; refine (rText42 _ _ _ dg _ HO.out (Nat.le_refl _) HDL.out).mono ?_
       rintro e w3 ⟨d1, rfl, hit, hb3⟩
       obtain ⟨_, ⟨fA, fn, fc, rfl⟩, _⟩ := item_shape hit
       have HIT := Lib.hid hit
       have HB3 : Hid (Below w.heap.size w w3) := HB2.out.trans (hb3.mono HB2.out.size)
       have hx := (hb3.block (w.heap.size + 1) (Array.getElem?_eq_some_iff.1 HX2.out).1).trans HX2.out
       obtain ⟨y0, y1, y2, y3⟩ := block_cells hx
       have HZ : Hid (w.heap.size + 1 < w2.heap.size) := (Array.getElem?_eq_some_iff.1 HX2.out).1
       clear hit hb3 hx))
  refine bodyPost_ret (v := .agg #[.int .i64 0, .slice fA fn fc, .slice none 0 0]) (by simp [results, Try.results40, go_sem, y0, y1, y2]) rfl ?_
  refine ⟨_, _, _, rfl, ItemR.wide (fun b hb => ⟨by have := hb.1; have := HZ.out; omega, by simpa [World.setCell] using hb.2⟩) _ _ (ItemR.keep (fun b hb => ?_) _ _ HIT.out), ((HB3.out.setCell (by show _ ≤ w.heap.size + 1; omega) _).setCell (by show _ ≤ w.heap.size + 1; omega) _).setCell (by show _ ≤ w.heap.size + 1; omega) _⟩
  have hb1 : w.heap.size + 1 ≠ b := by have := hb.1; have := HZ.out; omega
  simp (disch := exact hb1) only [heap_set]
set_option maxRecDepth 100000 in
set_option maxHeartbeats 1000000 in
/-- ref.List: the same kids, in a row of its own. -/
theorem rList44 (S : Nat → Prop) (A : Option Addr) (c : Nat) (ks : List It) (inner : List Value) (w : World) (h1 : ks.length ≤ c) (h2 : c ≤ 9223372036854775807) (hr : RdS w S 3 A ks.length inner) (hk : KidsR w S ks inner) (hS : ∀ b, S b → b < w.heap.size) (hl : ks.length ≤ 1073741824) :
    Calls Try.prog 44 #[.slice A ks.length c] w fun e w' => ∃ d0 d1 d2, e = .returned (.agg #[d0, d1, d2]) ∧ ItemR w' (fun b => b < w'.heap.size) (.mk 1 [] ks) [d0, d1, d2] ∧ Below w.heap.size w w' := by
  have HR : Hid (∀ W, Below w.heap.size w W → Rd W 0 w.heap.size 3 A ks.length inner) := fun W hW => (hr.toRd fun b hb => ⟨Nat.zero_le _, hS b hb⟩).keep (Same.of_below hW (Nat.le_refl _))
  have HK : Hid (∀ W, Below w.heap.size w W → KidsR W (fun b => b < w.heap.size) ks inner) := fun W hW => KidsR.wide hS _ _ (KidsR.keep (fun b hb => hW.block b (hS b hb)) _ _ hk)
  have H1 : Hid (∀ u ∈ inner, u.oneCell' = true) := kids_one _ _ hk
  have HL := Lib.hid hl
  have HOE : Hid (∀ W : World, W.heap.size = w.heap.size + 1 → (W.alloc (.cells #[] 27)).ownsRow (w.heap.size + 1) 27 3 (.slice (some ⟨w.heap.size + 1, 0, none⟩) 0 0) 0 []) := fun W hW => by
    have h := World.ownsRow_lit (base := w.heap.size + 1) (e := 27) (size := 3) W #[] 0 (by omega) (by decide) (by simp)
    rw [hW] at h
    simpa using h
  clear hr hk hS hl
  generalize hn : ks.length = n at *
  have HN := Lib.hid hn
  clear hn
  go_enter Try.func44, Try.ntmps44
  go_wp2_with (first
    | (at_builtin
       refine wp_append rfl (.tmp 3) (.tmp 4) 25 27 (.agg #[.int .i64 0, .slice none 0 0, .slice none 0 0]) 3 56 rfl Try.underlying25 info27 rfl (by omega) (w.heap.size + 1) 0 w.heap.size _ 0 [] A n c inner rfl rfl (HOE.out _ (by rw [size_alloc])) (HR.out _ (by go_grown)) H1.out (by have := HL.out; simp only [maxLen]; omega) (by have := HL.out; omega) (by simp only [size_alloc]; omega) ?_
       intro v' w2 hown2 hgrow2 hat2
       have HO2 := Lib.hid hown2
       obtain ⟨Ao, co, rfl⟩ := F2.own_shape hown2
       have hx := (hgrow2.block w.heap.size (by simp only [size_alloc]; omega) (fun e => by have e2 : w.heap.size = w.heap.size + 1 := Option.some.inj e; omega)).trans (show _ = some (Obj.cells #[.int .i64 0, .slice none 0 0, .slice none 0 0] 27 (0, 0)) by rw [heap_alloc, if_neg (by rw [size_alloc]; omega), heap_alloc, if_pos rfl])
       obtain ⟨y0, y1, y2, y3⟩ := block_cells hx
       have HB2 : Hid (Below w.heap.size w w2) := (((Below.refl _ w).alloc (Nat.le_refl _) _).alloc (by rw [size_alloc]; omega) _).grown hgrow2 (by simp only [size_alloc]; omega) (fun b hb => by have e2 : w.heap.size + 1 = b := Option.some.inj hb; omega)
       clear hown2 hgrow2 hat2 hx))
  refine bodyPost_ret (v := .agg #[.int .i64 1, .slice none 0 0, .slice Ao n co]) (by simp [results, Try.results44, go_sem, y0, y1, y2]) rfl ?_
  have ho := HO2.out
  simp only [Nat.zero_add, List.nil_append] at ho
  have hn := HN.out
  have hz := HB2.out.size
  have hW : ∀ b, b ≠ w.heap.size → (((w2.setCell ⟨w.heap.size, 0, none⟩ (.int .i64 1)).setCell ⟨w.heap.size, 1, none⟩ (.slice none 0 0)).setCell ⟨w.heap.size, 2, none⟩ (.slice Ao n co)).heap[b]? = w2.heap[b]? := fun b hb => by
    have hb1 : w.heap.size ≠ b := fun e => hb e.symm
    simp (disch := exact hb1) only [heap_set]
  have hs : (((w2.setCell ⟨w.heap.size, 0, none⟩ (.int .i64 1)).setCell ⟨w.heap.size, 1, none⟩ (.slice none 0 0)).setCell ⟨w.heap.size, 2, none⟩ (.slice Ao n co)).heap.size = w2.heap.size := by simp [World.setCell]
  refine ⟨_, _, _, rfl, ?_, ((HB2.out.setCell (Nat.le_refl _) _).setCell (Nat.le_refl _) _).setCell (Nat.le_refl _) _⟩
  simp only [ItemR]
  subst hn
  have hrd := (Rd.of_own ho).toS (S := fun b => w.heap.size + 1 ≤ b ∧ b < w2.heap.size) (fun b h1 h2 => ⟨h1, h2⟩)
  refine ⟨_, Ao, co, inner, rfl, ⟨none, 0, rfl, by simp, by omega, by simp, fun h => absurd h (by simp)⟩, ?_, ?_, (hrd.keep (fun b hb => hW b (by have := hb.1; omega))).wide (fun b hb => by rw [hs]; exact hb.2), KidsR.wide (fun b hb => by rw [hs]; omega) _ _ (KidsR.keep (fun b hb => hW b (by omega)) _ _ (HK.out _ HB2.out))⟩
  · rcases ho.2 with ⟨hv, h0⟩ | ⟨g, cap, cur, hv, _, _, hnc, _⟩
    · rw [h0]; omega
    · obtain ⟨rfl, _, rfl⟩ := (Value.slice.injEq _ _ _ _ _ _).mp hv
      exact hnc
  · rcases ho.2 with ⟨hv, h0⟩ | ⟨g, cap, cur, hv, _, _, hnc, hcm, _⟩
    · obtain ⟨_, _, rfl⟩ := (Value.slice.injEq _ _ _ _ _ _).mp hv
      omega
    · obtain ⟨rfl, _, rfl⟩ := (Value.slice.injEq _ _ _ _ _ _).mp hv
      simpa [maxLen] using hcm
end Go.Proofs.Ytkdpphcalekbdaa.S6
