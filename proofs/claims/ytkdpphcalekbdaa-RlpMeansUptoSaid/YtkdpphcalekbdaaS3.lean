/- spoil, walked. -/
import Derived.Test.YtkdpphcalekbdaaS2
set_option linter.unusedVariables false
set_option linter.unusedSimpArgs false
namespace Go.Proofs.Ytkdpphcalekbdaa.S2
open Go.ChangeShapes Go.WideShapes Go.ChangeAt Go.RowKit
open M S1
theorem Sp.drew {S : Nat → Prop} {a b : World} (h : Sp S a b) : Sp S a b.drew := ⟨h.os, h.tape, h.output, h.size, h.out, h.b5, h.b27⟩
def SpoilSpec (d : Nat) : Prop := ∀ (S : Nat → Prop) (l : Int) (bv kv : Value) (w : World), OkB w S bv → OkK w S d kv → (∀ b, S b → b < w.heap.size) →
  Calls Try.prog 38 #[.agg #[.int .i64 l, bv, kv]] w fun e w' => (∃ v, e = .returned v) ∧ Sp S w w'
set_option maxRecDepth 100000 in
set_option maxHeartbeats 1000000 in
theorem spoil_step (d : Nat) (ih : ∀ d', d = d' + 1 → SpoilSpec d') : SpoilSpec d := by
  intro S l bv kv w hb hk hS
  obtain ⟨A, n, c, rfl, hn1, hn2, hnB⟩ := hb
  obtain ⟨B, m, e, rfl⟩ : ∃ B m e, kv = .slice B m e := by
    cases d with
    | zero => obtain ⟨B, e, rfl⟩ := hk; exact ⟨_, _, _, rfl⟩
    | succ d => obtain ⟨B, m, e, rfl, _⟩ := hk; exact ⟨_, _, _, rfl⟩
  have HSP : Hid (Sp S w (w.alloc (.cells #[.int .i64 l, .slice A n c, .slice B m e] 27))) := Sp.of_below hS ((Below.refl _ w).alloc (Nat.le_refl _) _)
  have HB : Hid (∀ W, Sp S (w.alloc (.cells #[.int .i64 l, .slice A n c, .slice B m e] 27)) W → OkB W S (.slice A n c)) := fun W h => OkB.sp (HSP.out.trans h) ⟨A, n, c, rfl, hn1, hn2, hnB⟩
  have HK : Hid (∀ W, Sp S (w.alloc (.cells #[.int .i64 l, .slice A n c, .slice B m e] 27)) W → OkK W S d (.slice B m e)) := fun W h => OkK.sp (HSP.out.trans h) d hk
  have HX : Hid (∀ W, Sp S (w.alloc (.cells #[.int .i64 l, .slice A n c, .slice B m e] 27)) W → W.heap[w.heap.size]? = some (.cells #[.int .i64 l, .slice A n c, .slice B m e] 27 (0, 0))) := fun W h =>
    (h.out w.heap.size (by rw [size_alloc]; omega) (fun hs => by have := hS _ hs; omega)).trans (by rw [heap_alloc, if_pos rfl])
  have HS := Lib.hid hS
  have HIH := Lib.hid ih
  clear hnB hk hS ih
  go_enter Try.func38, Try.ntmps38
  go_wp2_with fail
  go_loopw [2] (fun i wr => ∃ k : Nat, k ≤ n ∧ i = .int .i64 (k : Int) ∧ Sp S (w.alloc (.cells #[.int .i64 l, .slice A n c, .slice B m e] 27)) wr) (fun i _ => n - (intOf i).toNat)
  case atStart => exact ⟨0, by omega, rfl, Sp.refl _ _⟩
  case round =>
    obtain ⟨k, hk, rfl, hsp⟩ := hrel
    obtain ⟨x0, x1, x2, x3⟩ := block_cells (HX.out wr hsp)
    by_cases hlt : k < n
    · obtain ⟨A', n', c', e', _, _, h3⟩ := HB.out wr hsp
      obtain ⟨rfl, rfl, rfl⟩ := (Value.slice.injEq _ _ _ _ _ _).mp e'
      obtain ⟨g, cur, rfl, hs, hg, hc⟩ := h3 (by omega)
      obtain ⟨y, hy⟩ := hc k hlt
      have cy := cell_blk hg hy
      have fy := frozen_blk hg k
      have HSPR := Lib.hid hsp
      have HG := Lib.hid hg
      have HSG := Lib.hid hs
      clear hsp h3 hg hc hy hs
      go_wp2_with fail
      go_region
      go_wp2_with fail
      go_roundw
      case rel => exact ⟨k + 1, by omega, by go_num, HSPR.out.trans (Sp.byte HSG.out HG.out _).drew⟩
      case measure => simp [intOf]; omega
    · obtain rfl : k = n := by omega
      have HSPR := Lib.hid hsp
      clear hsp
      go_wp2_with fail
      go_loopw [3] (fun i wr => ∃ q : Nat, q ≤ m ∧ i = .int .i64 (q : Int) ∧ Sp S (w.alloc (.cells #[.int .i64 l, .slice A k c, .slice B m e] 27)) wr) (fun i _ => m - (intOf i).toNat)
      case atStart => exact ⟨0, by omega, rfl, HSPR.out⟩
      case round =>
        obtain ⟨q, hq, rfl, hsp⟩ := hrel
        obtain ⟨x0, x1, x2, x3⟩ := block_cells (HX.out _ hsp)
        by_cases hlt : q < m
        · cases d with
          | zero =>
            exfalso
            obtain ⟨A', c', e'⟩ := HK.out _ hsp
            have := (Value.slice.injEq _ _ _ _ _ _).mp e'
            omega
          | succ d =>
            obtain ⟨A', n', c', e', hm1, hm2, h3⟩ := HK.out _ hsp
            obtain ⟨rfl, rfl, rfl⟩ := (Value.slice.injEq _ _ _ _ _ _).mp e'
            obtain ⟨g, cur, rfl, hs, hg, hc⟩ := h3 (by omega)
            obtain ⟨l', bv', kv', e0, e1, e2, hb', hk'⟩ := hc q hlt
            have hsz : 3 * q + 2 < cur.size := (Array.getElem?_eq_some_iff.1 e2).1
            have c0 := cell_blk hg e0
            have c1 := cell_blk hg e1
            have c2 := cell_blk hg e2
            rw [show 3 * q = q * 3 from Nat.mul_comm _ _] at c0 c1 c2
            obtain ⟨fA, fn, fc, rfl⟩ : ∃ A n c, bv' = .slice A n c := by obtain ⟨A, n, c, h, _⟩ := hb'; exact ⟨_, _, _, h⟩
            obtain ⟨fB, fm, fd, rfl⟩ : ∃ A n c, kv' = .slice A n c := by
              cases d with
              | zero => obtain ⟨A, c, h⟩ := hk'; exact ⟨_, _, _, h⟩
              | succ d => obtain ⟨A, n, c, h, _⟩ := hk'; exact ⟨_, _, _, h⟩
            have HC := Lib.hid (HIH.out d rfl S l' _ _ _ hb' hk' (fun b hb => Nat.lt_of_lt_of_le (HS.out b hb) (Nat.le_trans (Nat.le_succ _) (by have := hsp.size; rw [size_alloc] at this; exact this))))
            have HSP2 := Lib.hid hsp
            have HG := Lib.hid hg
            have HSG := Lib.hid hs
            have HE := Lib.hid (show _ ∧ _ ∧ _ from ⟨e0, e1, e2⟩)
            have HSZ := Lib.hid hsz
            clear hsp h3 hg hc hs hb' hk' e0 e1 e2 hsz
            go_wp2_with (first
              | (go_at_call 38; refine HC.out.mono ?_
                 rintro e w1 ⟨⟨v, rfl⟩, hsp1⟩
                 obtain ⟨cur1, hg1, hc1⟩ := hsp1.b27 g cur HSG.out HG.out
                 obtain ⟨z0, z1, z2, f0, f1, f2⟩ : ∃ z0 z1 z2, cur1[3 * q]? = some z0 ∧ cur1[3 * q + 1]? = some z1 ∧ cur1[3 * q + 2]? = some z2 := by
                   rcases hc1 q _ _ _ HE.out.1 HE.out.2.1 HE.out.2.2 with ⟨h0, h1, h2⟩ | ⟨h0, h1, h2⟩
                   · exact ⟨_, _, _, h0, h1, h2⟩
                   · exact ⟨_, _, _, h0, h1, h2⟩
                 have hsz1 : 3 * q + 2 < cur1.size := (Array.getElem?_eq_some_iff.1 f2).1
                 have s0 := cell_blk hg1 f0
                 have s1 := cell_blk hg1 f1
                 have s2 := cell_blk hg1 f2
                 rw [show 3 * q = q * 3 from Nat.mul_comm _ _] at s0 s1 s2
                 have g0 := frozen_blk hg1 (q * 3)
                 have g1 := frozen_blk hg1 (q * 3 + 1)
                 have g2 := frozen_blk hg1 (q * 3 + 2)
                 obtain ⟨v0, v1, v2, v3⟩ := block_cells (HX.out _ (HSP2.out.trans hsp1))
                 have HSP3 := Lib.hid hsp1
                 have HG1 := Lib.hid hg1
                 have HSZ1 := Lib.hid hsz1
                 clear hsp1 hg1 hc1 f0 f1 f2 hsz1))
            go_roundw
            case rel =>
              refine ⟨q + 1, by omega, by go_num, ?_⟩
              rw [show q * 3 = 3 * q from Nat.mul_comm _ _]
              exact (HSP2.out.trans HSP3.out).trans (Sp.item HSG.out HG1.out HSZ1.out)
            case measure => simp [intOf]; omega
        · obtain rfl : q = m := by omega
          have HSP2 := Lib.hid hsp
          clear hsp
          go_wp2_with fail
          go_end0
          exact ⟨⟨_, rfl⟩, HSP.out.trans HSP2.out⟩
/-- spoil returns, and writes over nothing but the item's own blocks. -/
theorem spoil38 : ∀ d, SpoilSpec d
  | 0 => spoil_step 0 (fun d' h => by omega)
  | d + 1 => spoil_step (d + 1) (fun d' h => (Nat.succ.inj h) ▸ spoil38 d)
end Go.Proofs.Ytkdpphcalekbdaa.S2
