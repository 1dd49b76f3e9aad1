/- rlp.Text. -/
import Derived.Test.YtkdpphcalekbdaaG4
import Derived.Test.YtkdpphcalekbdaaV
import Derived.Test.YtkdpphcalekbdaaW7
set_option linter.unusedVariables false
set_option linter.unusedSimpArgs false
namespace Go.Proofs.Ytkdpphcalekbdaa.G5
open Go.ChangeShapes Go.WideShapes Go.ChangeAt Go.RowKit
open M F1 W1
/-- 'b[f:t]'. -/
theorem cut_mid {w : World} {lo hi : Nat} {A : Option Addr} {c : Nat} {bs : List UInt8} (h1 : bs.length ≤ c) (h2 : c ≤ 9223372036854775807) (hR : Rd w lo hi 1 A bs.length (nums bs)) (f t : Nat) (hft : f ≤ t) (ht : t ≤ bs.length) :
    ∃ A' : Option Addr, (∀ W : World, (Instr.slice 23 (.slice A bs.length c) (some (.int .i64 (f : Int))) (some (.int .i64 (t : Int))) none).run Try.prog W = .ok (.slice A' (t - f) (c - f)) W) ∧ Bs w lo hi (.slice A' (t - f) (c - f)) ((bs.take t).drop f) := by
  have hel : Try.prog.elem 23 = 5 := by simp [Program.elem, Try.underlying23]
  have hu : Try.prog.underlying 23 = some (.slice (Try.prog.elem 23)) := by rw [hel]; exact Try.underlying23
  have hl : ((bs.take t).drop f).length = t - f := by rw [List.length_drop, List.length_take]; omega
  obtain ⟨i, hi1, hi2⟩ := Option.map_eq_some_iff.1 M.info5
  simp only [Prod.mk.injEq] at hi2
  refine ⟨if c = f then A else A.map (·.add f), fun W => ?_, if c = f then A else A.map (·.add f), c - f, by rw [hl], by omega, by omega, ?_, fun hn => ?_⟩
  · rw [run_slice_lh W 23 A bs.length c hu .i64 .i64 (f : Int) (t : Int) (Int.natCast_nonneg _) (by omega) (by omega), hel]
    simp [sizeOf, typeInfo, hi1, hi2, sliced, Result.andThen]
  · simp [hl]
  · rw [hl] at hn
    obtain ⟨g, off, rfl, b1, b2, hc⟩ := hR.2 (by omega)
    rw [if_neg (by omega)]
    refine ⟨g, off + f, ?_, b1, b2, fun j u hu' => ?_⟩
    · simp only [Option.map_some, Addr.add]
      split
      · rename_i h0; subst h0; rfl
      · rfl
    · rw [Nat.add_assoc]
      refine hc (f + j) u ?_
      simp only [nums, List.map_drop, List.map_take, List.getElem?_drop, List.getElem?_take] at hu' ⊢
      split at hu'
      · exact hu'
      · cases hu'
set_option maxRecDepth 100000 in
set_option maxHeartbeats 1000000 in
/-- Text is an item of the bytes. -/
theorem text41 (lo hi : Nat) (v : Value) (bs : List UInt8) (w : World) (hb : Bs w lo hi v bs) (hhi : hi ≤ w.heap.size) (hn : bs.length ≤ 140737488355328) :
    Calls Try.prog 41 #[v] w fun e w' => ∃ d1, e = .returned (.agg #[.int .i64 0, d1, .slice none 0 0]) ∧ ItemR w' (Btw w.heap.size w'.heap.size) (.mk 0 bs []) [.int .i64 0, d1, .slice none 0 0] ∧ Below w.heap.size w w' := by
  have HV : Hid (∀ W, Below w.heap.size w W → Bs W lo hi v bs) := fun W hW => hb.keep (Same.of_below hW hhi)
  obtain ⟨A, c, rfl, h1, h2, hR⟩ := hb
  clear hR
  have HN := Lib.hid hn
  clear hn
  go_enter Try.func41, Try.ntmps41
  go_wp2_with (first
    | (go_at_call 58; refine (clone58 lo hi _ bs _ (HV.out _ (by go_grown)) (by rw [size_alloc]; omega) HN.out).mono ?_
       rintro e w1 ⟨v', rfl, ho, hbl⟩
       obtain ⟨Ao, co, rfl, hq1, hq2, hq3⟩ := ho.bs
       have hx := (hbl.block w.heap.size (by rw [size_alloc]; omega)).trans (show _ = some (Obj.cells #[.int .i64 0, .slice none 0 0, .slice none 0 0] 27 (0, 0)) by rw [heap_alloc, if_pos rfl])
       obtain ⟨y0, y1, y2, y3⟩ := block_cells hx
       have HBL := Lib.hid hbl
       have HO := Lib.hid ho
       clear hbl ho hq3 hx))
  refine bodyPost_ret (v := .agg #[.int .i64 0, .slice Ao bs.length co, .slice none 0 0]) (by simp [results, Try.results41, go_sem, y0, y1, y2]) rfl ?_
  have hB1 : Below w.heap.size w w1 := ((Below.refl _ w).alloc (Nat.le_refl _) _).trans (HBL.out.mono (by rw [size_alloc]; omega))
  refine ⟨_, rfl, ?_, ((hB1.setCell (Nat.le_refl _) _).setCell (Nat.le_refl _) _).setCell (Nat.le_refl _) _⟩
  simp only [ItemR]
  refine ⟨_, none, 0, [], rfl, ?_, by simp, by omega, ⟨rfl, fun h => absurd h (by simp)⟩, rfl⟩
  have h3 : BsS w1 (Btw (w.heap.size + 1) w1.heap.size) (.slice Ao bs.length co) bs := HO.out.bs.toS fun b h1 h2 => ⟨by rw [size_alloc] at h1; omega, h2⟩
  refine (h3.keep fun b hb => ?_).wide fun b hb => ⟨by have := hb.1; omega, by simpa [World.setCell] using hb.2⟩
  have hb1 : w.heap.size ≠ b := by have := hb.1; omega
  simp (disch := exact hb1) only [heap_set]
/-- An error of a head is 41 or 42. -/
theorem hd_err {bs : List UInt8} {e : Nat} (h : hd bs = .error e) : e = 41 ∨ e = 42 := by
  have hl : ∀ r k, (longP r k).2 = 0 ∨ (longP r k).2 = 41 ∨ (longP r k).2 = 42 := by
    intro r k; unfold longP; split
    · exact .inr (.inl rfl)
    · split
      · exact .inr (.inr rfl)
      · split
        · exact .inr (.inr rfl)
        · exact .inl rfl
  have key : ∀ r l b, hdBody r l b = .error e → e = 41 ∨ e = 42 := by
    intro r l b h
    unfold hdBody at h
    split at h
    · split at h
      · injection h with h; exact .inl h.symm
      · split at h
        · injection h with h; exact .inr h.symm
        · cases h
    · split at h
      · injection h with h
        rename_i h0
        rcases hl r (b - 55) with a | a | a
        · exact absurd a h0
        · exact .inl (by omega)
        · exact .inr (by omega)
      · split at h
        · injection h with h; exact .inl h.symm
        · cases h
  cases bs with
  | nil => injection h with h; exact .inl h.symm
  | cons c r =>
    rw [hd_cons] at h
    split at h
    · cases h
    · split at h <;> exact key _ _ _ h
/-- What decode answers. -/
def DecSpec (d : Nat) (dp : Int) : Prop := ∀ (lo hi : Nat) (v : Value) (bs : List UInt8) (w : World), Bs w lo hi v bs → hi ≤ w.heap.size → bs.length ≤ 1073741824 →
  Calls Try.prog 48 #[v, .int .i64 dp] w fun e w' => Below w.heap.size w w' ∧
    ((∃ er : Nat, er ≠ 0 ∧ decF d bs = .error er ∧ e = .returned (.tuple #[.agg #[.int .i64 0, .slice none 0 0, .slice none 0 0], .int .i64 0, .int .i64 (er : Int)])) ∨
     (∃ x t d0 d1 d2, decF d bs = .ok (x, t) ∧ e = .returned (.tuple #[.agg #[d0, d1, d2], .int .i64 (t : Int), .int .i64 0]) ∧ ItemR w' (Btw w.heap.size w'.heap.size) x [d0, d1, d2]))
set_option maxRecDepth 100000 in
set_option maxHeartbeats 1000000 in
theorem dec_err (d : Nat) (dp : Int) (lo hi : Nat) (v : Value) (bs : List UInt8) (w : World) (hb : Bs w lo hi v bs) (hhi : hi ≤ w.heap.size) (hn : bs.length ≤ 1073741824) (er : Nat) (hh : hd bs = .error er) :
  Calls Try.prog 48 #[v, .int .i64 dp] w fun e w' => Below w.heap.size w w' ∧ e = .returned (.tuple #[.agg #[.int .i64 0, .slice none 0 0, .slice none 0 0], .int .i64 0, .int .i64 (er : Int)]) := by
  have hne : ¬ (er : Int) = 0 := by rcases hd_err hh with h | h <;> omega
  have HH : Hid (∀ W, Below w.heap.size w W → Calls Try.prog 23 #[v] W fun e w' => e = .returned (.tuple #[.agg #[.int .i64 0, .int .i64 0, .int .i64 0], .int .i64 (er : Int)]) ∧ Below W.heap.size W w') := fun W hW => by
    have := head23_any lo hi v bs W (hb.keep (Same.of_below hW hhi)) (Nat.le_trans hhi hW.size) (by omega)
    rw [hh] at this
    exact this
  obtain ⟨A, c, rfl, h1, h2, hR⟩ := hb
  clear hh hR
  go_enter Try.func48, Try.ntmps48
  go_wp2
  go_step3
  go_wp2_with (first
    | (go_at_call 23; refine (HH.out _ (by go_grown)).mono ?_
       rintro e w1 ⟨rfl, hbl⟩
       have hx := (hbl.block w.heap.size (by rw [size_alloc]; omega)).trans (show _ = some (Obj.cells #[.int .i64 0, .slice none 0 0, .slice none 0 0] 27 (0, 0)) by rw [heap_alloc, if_pos rfl])
       obtain ⟨y0, y1, y2, y3⟩ := block_cells hx
       have hz : w.heap.size < w1.heap.size := Nat.lt_of_lt_of_le (by rw [size_alloc]; omega) hbl.size
       have hz1 : w.heap.size < w1.heap.size + 1 := by omega
       have HBL := Lib.hid hbl
       clear hbl hx))
  rw [Exit.noGoto_ret]
  refine bodyPost_ret (v := .tuple #[.agg #[.int .i64 0, .slice none 0 0, .slice none 0 0], .int .i64 0, .int .i64 (er : Int)]) (by simp [results, Try.results48, go_sem, y0, y1, y2, hz, hz1]) rfl ?_
  refine ⟨?_, rfl⟩
  have hB1 : Below w.heap.size w w1 := ((Below.refl _ w).alloc (Nat.le_refl _) _).trans (HBL.out.mono (by rw [size_alloc]; omega))
  first
    | exact (((hB1.setCell (Nat.le_refl _) _).setCell (Nat.le_refl _) _).setCell (Nat.le_refl _) _).alloc (by simp [World.setCell]; omega) _
    | exact ((((hB1.alloc hB1.size _).setCell (Nat.le_refl _) _).setCell (Nat.le_refl _) _).setCell (Nat.le_refl _) _)
end Go.Proofs.Ytkdpphcalekbdaa.G5
