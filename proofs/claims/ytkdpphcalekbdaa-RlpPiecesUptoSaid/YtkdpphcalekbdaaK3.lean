/- ref.Each: the pieces of bytes in a row. -/
import Derived.Test.YtkdpphcalekbdaaK2
import Derived.Test.YtkdpphcalekbdaaJ1
import Derived.Test.YtkdpphcalekbdaaF2
set_option linter.unusedVariables false
set_option linter.unusedSimpArgs false
namespace Go.Proofs.Ytkdpphcalekbdaa.K1
open Go.ChangeShapes Go.WideShapes Go.ChangeAt Go.RowKit
open M W1 J1
/-- The cells of pieces in a row. -/
def pcCells (l : List Pc) : List Value := l.flatMap fun x => [.int .i64 (x.2.1 : Nat), .int .i64 (x.2.2.1 : Nat), .int .i64 (x.2.2.2 : Nat)]
theorem pcCells_append (a b : List Pc) : pcCells (a ++ b) = pcCells a ++ pcCells b := by simp [pcCells]
theorem pcCells_one (i l f t : Nat) : pcCells [(i, l, f, t)] = [.int .i64 (l : Int), .int .i64 (f : Int), .int .i64 (t : Int)] := rfl
theorem eachF_len (bs : List UInt8) : ∀ (g p i : Nat), p ≤ bs.length → (eachF bs g p i).length ≤ bs.length - p
  | 0, p, i, _ => by simp [eachF]
  | g + 1, p, i, hp => by
    rw [eachF]
    split
    · rename_i hlt
      cases hh : hd (bs.drop p) with
      | error e => simp
      | ok q =>
        obtain ⟨l, f, t⟩ := q
        have hok := hd_ok hh
        rw [List.length_drop] at hok
        have := eachF_len bs g (t + p) (i + 1) (by omega)
        simp only [List.length_cons]
        omega
    · simp
theorem pieces_len (bs : List UInt8) : (pieces bs).length ≤ bs.length := eachF_len bs bs.length 0 0 (Nat.zero_le _)
theorem info51 : (Try.prog.info? 51).map (fun i => (i.zero, i.size, i.bytes)) = some (some (.agg #[.int .i64 0, .int .i64 0, .int .i64 0]), 3, 24) := by kernel_rfl
set_option maxRecDepth 100000 in
set_option maxHeartbeats 2000000 in
/-- ref.Each: the pieces. -/
theorem reach22 (lo hi : Nat) (v : Value) (bs : List UInt8) (w : World) (hb : Bs w lo hi v bs) (hhi : hi ≤ w.heap.size) (hlen : bs.length ≤ 1073741824) :
    Calls Try.prog 22 #[v] w fun e w' => ∃ v', e = .returned v' ∧ w'.ownsRow w.heap.size 51 3 v' (pieces bs).length (pcCells (pieces bs)) ∧ Below w.heap.size w w' := by
  obtain ⟨A, cap, rfl, hc1, hc2, hR⟩ := hb
  have HR := Lib.hid hR
  have HHI := Lib.hid hhi
  have HPL := Lib.hid (pieces_len bs)
  clear hR hhi
  generalize hzs : pieces bs = zs at *
  have HZS := Lib.hid hzs
  clear hzs
  go_enter Try.func22, Try.ntmps22
  go_wp2_with fail
  go_loopw [3, 4] (fun o a wr => ∃ (p g : Nat) (pre : List Pc) (Ao : Option Addr) (co : Nat), o = .slice Ao pre.length co ∧ a = .int .i64 (p : Int) ∧ p ≤ bs.length ∧ bs.length ≤ p + g ∧ Hid (pre ++ eachF bs g p pre.length = zs) ∧ wr.ownsRow w.heap.size 51 3 (.slice Ao pre.length co) pre.length (pcCells pre) ∧ Below w.heap.size w wr)
    (fun _ a _ => bs.length - (intOf a).toNat)
  case atStart => exact ⟨0, bs.length, [], none, 0, rfl, rfl, by omega, by omega, by have := HZS.out; rw [← this]; rfl, World.ownsRow_nil _ _ _ _, Below.refl _ _⟩
  case round =>
    obtain ⟨p, g, pre, Ao, co, rfl, rfl, hp, hg, HE, hown, hB⟩ := hrel
    by_cases hlt : p < bs.length
    · obtain ⟨A1, hcut, hrd⟩ := cut_slice (P := Try.prog) 23 5 1 Try.underlying23 (by kernel_rfl) A bs.length cap p (p : Int) rfl (by omega)
      have hB1 : Bs wr lo hi (.slice A1 (bs.length - p) (cap - p)) (bs.drop p) := by
        have hl' : (bs.drop p).length = bs.length - p := by rw [List.length_drop]
        have h := hrd wr lo hi (nums bs) hc1 (HR.out.keep (Same.of_below hB HHI.out))
        refine ⟨A1, cap - p, by rw [hl'], by omega, by omega, ?_⟩
        rw [hl']
        simpa [nums] using h
      have hdl : (bs.drop p).length < 1099511627776 := by rw [List.length_drop]; omega
      have HC := Lib.hid (head53_any lo hi _ (bs.drop p) wr hB1 (Nat.le_trans HHI.out hB.size) hdl)
      have HB := Lib.hid hB
      have HO := Lib.hid hown
      clear hrd hB1 hdl hown hB
      cases hh : hd (bs.drop p) with
      | error er =>
        have HC1 : Hid (Calls Try.prog 53 #[.slice A1 (bs.length - p) (cap - p)] wr fun e w' => e = .returned (.tuple #[.agg #[.int .i64 0, .int .i64 0, .int .i64 0], .int .i64 (er : Int)]) ∧ Below wr.heap.size wr w') := by
          have h := HC.out
          rw [hh] at h
          exact h
        have her : ¬ (er : Int) = 0 := by rcases G5.hd_err hh with h | h <;> omega
        have HFin : Hid (pre = zs) := by
          have h := HE.out
          rw [eachF_err bs g p _ er hh, List.append_nil] at h
          exact h
        clear hh HC
        go_wp2_with (first | (go_at_call 53; refine HC1.out.mono ?_; rintro e w1 ⟨rfl, hbl⟩; have HB1 := Lib.hid hbl; clear hbl))
        go_ret
        rw [← HFin.out]
        exact ⟨_, rfl, own_keep HO.out (fun b hb => (((Below.refl _ w1).alloc (Nat.le_refl _) _).block b (Nat.lt_of_lt_of_le (World.ownsRow.lt HO.out b hb).2 HB1.out.size)).trans (HB1.out.block b (World.ownsRow.lt HO.out b hb).2)), (HB.out.trans (HB1.out.mono HB.out.size)).alloc (Nat.le_trans HB.out.size HB1.out.size) _⟩
      | ok q =>
        obtain ⟨li, f, t⟩ := q
        have HC1 : Hid (Calls Try.prog 53 #[.slice A1 (bs.length - p) (cap - p)] wr fun e w' => e = .returned (.tuple #[.agg #[.int .i64 (li : Int), .int .i64 (f : Int), .int .i64 (t : Int)], .int .i64 0]) ∧ Below wr.heap.size wr w') := by
          have h := HC.out
          rw [hh] at h
          exact h
        have hok := hd_ok hh
        rw [List.length_drop] at hok
        have ht1 : 1 ≤ t := hok.2.2.2.1
        have ht2 : t ≤ bs.length - p := hok.2.2.1
        have hf2 : f ≤ t := hok.2.1
        obtain ⟨g', rfl⟩ : ∃ g', g = g' + 1 := ⟨g - 1, by omega⟩
        have HE2 : Hid (pre ++ [(pre.length, li, f + p, t + p)] ++ eachF bs g' (t + p) (pre ++ [(pre.length, li, f + p, t + p)]).length = zs) := by
          have h := HE.out
          rw [eachF_ok bs g' p _ li f t hlt hh] at h
          rw [List.length_append, List.length_singleton, List.append_assoc]
          exact h
        have HML : Hid (pre.length + 1 ≤ maxLen ∧ (pre.length + 1) * 24 ≤ 140737488355328) := by
          have h1 : pre.length + 1 ≤ zs.length := by
            have := HE2.out
            rw [← this, List.length_append, List.length_append, List.length_singleton]
            omega
          have h2 := HPL.out
          have h : pre.length + 1 ≤ maxLen ∧ (pre.length + 1) * 24 ≤ 140737488355328 := ⟨by unfold maxLen; omega, by omega⟩
          exact h
        clear hh HC hok
        go_wp2_with (first
          | (go_at_call 53; refine HC1.out.mono ?_; rintro e w1 ⟨rfl, hbl⟩
             have HB1 := Lib.hid hbl
             have HO1 : Hid (w1.ownsRow w.heap.size 51 3 (.slice Ao pre.length co) pre.length (pcCells pre)) := own_keep HO.out (fun b hb => hbl.block b (World.ownsRow.lt HO.out b hb).2)
             have HZ1 : Hid (w.heap.size ≤ w1.heap.size) := Nat.le_trans HB.out.size hbl.size
             clear hbl)
          | (at_builtin
             refine wp_append rfl (.tmp 20) (.tmp 32) 48 51 (.agg #[.int .i64 0, .int .i64 0, .int .i64 0]) 3 24 rfl Try.underlying48 info51 rfl (by omega) w.heap.size 0 (w1.heap.size + 1 + 1) (.slice Ao pre.length co) pre.length (pcCells pre) (some ⟨w1.heap.size + 1, 0, none⟩) 1 1 [.int .i64 (li : Int), .int .i64 ((p : Int) + (f : Int)), .int .i64 ((p : Int) + (t : Int))] rfl rfl
               (own_keep HO1.out (fun b hb => (Below.heap_alloc _ _ _ (by have := (World.ownsRow.lt HO1.out b hb).2; rw [size_alloc]; omega)).trans (Below.heap_alloc _ _ _ (World.ownsRow.lt HO1.out b hb).2))) (F2.new3R _ _ _ _ 51 _ (by rw [size_alloc])) (by intro u hu; simp at hu; rcases hu with rfl | rfl | rfl <;> rfl) HML.out.1 HML.out.2 (by simp only [size_alloc]; have := HZ1.out; omega) ?_
             intro v' w2 hown2 hgrow2 hat2
             have HO2 := Lib.hid hown2
             have HG2 := Lib.hid hgrow2
             obtain ⟨A2, c2, rfl⟩ := F2.own_shape hown2
             have hbl2 : w2.heap[w1.heap.size]? = some (.cells #[.int .i64 (li : Int), .int .i64 (f : Int), .int .i64 (t : Int)] 51 (0, 0)) :=
               (hgrow2.block w1.heap.size (by simp only [size_alloc]; omega) (fun e => by have := (World.ownsRow.lt HO1.out _ e.symm).2; omega)).trans (by rw [heap_alloc, if_neg (by rw [size_alloc]; omega), heap_alloc, if_pos rfl])
             obtain ⟨y0, y1, y2, y3⟩ := block_cells hbl2
             clear hown2 hgrow2 hat2 hbl2))
        go_roundw
        case rel =>
          have hown3 : w2.ownsRow w.heap.size 51 3 (.slice A2 (pre.length + 1) c2) (pre.length + 1) (pcCells (pre ++ [(pre.length, li, f + p, t + p)])) := by
            have h := HO2.out
            rw [pcCells_append, pcCells_one, Int.natCast_add, Int.natCast_add, Int.add_comm (f : Int), Int.add_comm (t : Int)]
            exact h
          have hl1 : (pre ++ [(pre.length, li, f + p, t + p)]).length = pre.length + 1 := by rw [List.length_append, List.length_singleton]
          refine ⟨p + t, g', pre ++ [(pre.length, li, f + p, t + p)], A2, c2, by rw [hl1], by simp, by omega, by omega, ?_, by rw [hl1]; exact hown3, ?_⟩
          · rw [Nat.add_comm p t]; exact HE2
          · exact ((((HB.out.trans (HB1.out.mono HB.out.size)).alloc HZ1.out _).alloc (by rw [size_alloc]; have := HZ1.out; omega) _)).grown HG2.out (by simp only [size_alloc]; have := HZ1.out; omega) (fun b hb => (World.ownsRow.lt HO1.out b hb).1)
        case measure => simp [intOf]; omega
    · obtain rfl : p = bs.length := by omega
      have HFin : Hid (pre = zs) := by
        have h := HE.out
        rw [eachF_stop bs g _ _ (Nat.lt_irrefl _), List.append_nil] at h
        exact h
      have HB := Lib.hid hB
      have HO := Lib.hid hown
      clear hB hown
      go_wp2
      go_ret
      rw [← HFin.out]
      exact ⟨_, rfl, HO.out, HB.out⟩
end Go.Proofs.Ytkdpphcalekbdaa.K1
