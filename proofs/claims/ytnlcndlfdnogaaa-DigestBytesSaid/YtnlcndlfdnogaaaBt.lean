/- DigestBytes, walked. -/
import Derived.Test.YtnlcndlfdnogaaaN0
import Derived.Test.YtnlcndlfdnogaaaEq
import Derived.Test.YtnlcndlfdnogaaaKr
import Derived.Test.YtnlcndlfdnogaaaSr
import Derived.Test.YtnlcndlfdnogaaaRk
set_option linter.unusedVariables false
set_option linter.unusedSimpArgs false
namespace Go.Proofs.Ytnlcndlfdnogaaa.Bt
open Go.RowKit
open D0 M D2 D3 Rg K0 K1 K2 Aw N0
theorem guard25 : Try.prog.eqGuardType Try.prog.depth 25 = false := by kernel_rfl
theorem guard29 : Try.prog.eqGuardType Try.prog.depth 29 = false := by kernel_rfl
set_option maxRecDepth 100000 in
set_option maxHeartbeats 4000000 in
theorem bytes3 (w : World) (lo hi : Nat) (v : Value) (bs : List Byte) (hb : Bs w lo hi v bs) (hhi : hi ≤ w.heap.size) : Calls Try.prog 3 #[v] w fun e w' => e = .returned (.bool true) ∧ Below w.heap.size w w' := by
  have HBS : Hid (∀ W, Below w.heap.size w W → Bs W lo hi v bs) := fun W hW => hb.keep (Same.of_below hW hhi)
  have HHI := Lib.hid hhi
  obtain ⟨A, c, rfl, hc1, hc2, hR⟩ := hb
  obtain ⟨n, hn⟩ : ∃ n, n = bs.length := ⟨_, rfl⟩
  rw [← hn] at HBS ⊢
  have HN := Lib.hid hn
  clear hR hc1 hc2 hhi hn
  rcases Nat.lt_or_ge 20000 n with h | h
  · have hd : decide ((20000 : Int) < (n : Int)) = true := decide_eq_true (by omega)
    have hd2 : (20000 : Int) < (n : Int) := by omega
    go_enter Try.func3, Try.ntmps3
    go_wp2_with (first
      | (go_at_call 9; refine (awake9 _).mono ?_
         rintro e w1 ⟨rfl, hb1⟩
         have HB1 := Lib.hid hb1
         clear hb1))
    go_ret
    exact ⟨rfl, HB1.out⟩
  · have hd : decide ((20000 : Int) < (n : Int)) = false := decide_eq_false (by omega)
    have hlen : Hid (bs.length ≤ 1073741824) := show _ ≤ _ by have := HN.out; omega
    have HT : Hid (∀ W, Below w.heap.size w W → Calls Try.prog 11 #[.slice A n c] W fun e w' => ∃ v', e = .returned v' ∧ Own w' W.heap.size v' bs ∧ Below W.heap.size W w') := fun W hW => twin11 W lo hi _ bs (HBS.out W hW) hlen.out
    have H10 : Hid (∀ W b v', Own W b v' bs → Calls Try.prog 10 #[v'] W fun e w' => e = .returned (.agg (nums (keccF bs)).toArray) ∧ Below W.heap.size W w') := fun W b v' h => kecc10 W b W.heap.size v' bs (Own.bs h) hlen.out (Nat.le_refl _)
    have H13 : Hid (∀ W b v', Own W b v' bs → Calls Try.prog 13 #[v'] W fun e w' => e = .returned (.agg (nums (S2.shaF bs)).toArray) ∧ Below W.heap.size W w') := fun W b v' h => S5.sha13 W b W.heap.size v' bs (Own.bs h) hlen.out (Nat.le_refl _)
    have H15 : Hid (∀ W b v', Own W b v' bs → Calls Try.prog 15 #[v'] W fun e w' => e = .returned (.agg (nums (R0.ripF bs)).toArray) ∧ Below W.heap.size W w') := fun W b v' h => R5.ripemd15 W b W.heap.size v' bs (Own.bs h) hlen.out (Nat.le_refl _)
    have H12 : Hid (∀ W, Below w.heap.size w W → Calls Try.prog 12 #[.slice A n c] W fun e w' => e = .returned (.agg (nums (keccF bs)).toArray) ∧ Below W.heap.size W w') := fun W hW => Kr.kecc12 W lo hi _ bs (HBS.out W hW) hlen.out (Nat.le_trans HHI.out hW.size)
    have H14 : Hid (∀ W, Below w.heap.size w W → Calls Try.prog 14 #[.slice A n c] W fun e w' => e = .returned (.agg (nums (S2.shaF bs)).toArray) ∧ Below W.heap.size W w') := fun W hW => Sr.sha14 W lo hi _ bs (HBS.out W hW) hlen.out (Nat.le_trans HHI.out hW.size)
    have H16 : Hid (∀ W, Below w.heap.size w W → Calls Try.prog 16 #[.slice A n c] W fun e w' => e = .returned (.agg (nums (R0.ripF bs)).toArray) ∧ Below W.heap.size W w') := fun W hW => Rk.rip16 W lo hi _ bs (HBS.out W hW) hlen.out (Nat.le_trans HHI.out hW.size)
    have g25 := guard25
    have g29 := guard29
    have q1 : ∀ W : World, (Op.equalIn 10000 25 (.agg (nums (keccF bs)).toArray) (.agg (nums (keccF bs)).toArray)).run Try.prog W = .ok true W := fun W => by rw [Eq.in25 W _ _ (kecc_len bs) (kecc_len bs)]; simp
    have q2 : ∀ W : World, (Op.equalIn 10000 25 (.agg (nums (S2.shaF bs)).toArray) (.agg (nums (S2.shaF bs)).toArray)).run Try.prog W = .ok true W := fun W => by rw [Eq.in25 W _ _ (sha_len bs) (sha_len bs)]; simp
    have q3 : ∀ W : World, (Op.equalIn 10000 29 (.agg (nums (R0.ripF bs)).toArray) (.agg (nums (R0.ripF bs)).toArray)).run Try.prog W = .ok true W := fun W => by rw [Eq.in29 W _ _ (Aw.rip_len bs) (Aw.rip_len bs)]; simp
    generalize keccF bs = kf at *
    generalize S2.shaF bs = sf at *
    generalize R0.ripF bs = rf at *
    clear HBS HHI HN hlen
    go_enter Try.func3, Try.ntmps3
    go_wp2_with (first
      | (go_at_call 9; refine (awake9 _).mono ?_
         rintro e w1 ⟨rfl, hb1⟩
         have HB1 := Lib.hid hb1
         have HT1 := Lib.hid (HT.out w1 hb1)
         clear hb1)
      | (go_at_call 11; refine HT1.out.mono ?_
         rintro e w2 ⟨v2, rfl, ho2, hb2⟩
         have HO2 := Lib.hid ho2
         have HB2 := Lib.hid (HB1.out.trans (hb2.mono HB1.out.size))
         clear ho2 hb2 HT1)
      | (go_at_call 10; refine (H10.out _ _ _ HO2.out).mono ?_
         rintro e w3 ⟨rfl, hb3⟩
         have HB3 := Lib.hid (HB2.out.trans (hb3.mono HB2.out.size))
         clear hb3)
      | (go_at_call 12; refine (H12.out _ HB3.out).mono ?_
         rintro e w4 ⟨rfl, hb4⟩
         have HB4 := Lib.hid (HB3.out.trans (hb4.mono HB3.out.size))
         have HT4 := Lib.hid (HT.out w4 HB4.out)
         clear hb4)
      | (go_at_call 11; refine HT4.out.mono ?_
         rintro e w5 ⟨v5, rfl, ho5, hb5⟩
         have HO5 := Lib.hid ho5
         have HB5 := Lib.hid (HB4.out.trans (hb5.mono HB4.out.size))
         clear ho5 hb5 HT4)
      | (go_at_call 13; refine (H13.out _ _ _ HO5.out).mono ?_
         rintro e w6 ⟨rfl, hb6⟩
         have HB6 := Lib.hid (HB5.out.trans (hb6.mono HB5.out.size))
         clear hb6)
      | (go_at_call 14; refine (H14.out _ HB6.out).mono ?_
         rintro e w7 ⟨rfl, hb7⟩
         have HB7 := Lib.hid (HB6.out.trans (hb7.mono HB6.out.size))
         have HT7 := Lib.hid (HT.out w7 HB7.out)
         clear hb7)
      | (go_at_call 11; refine HT7.out.mono ?_
         rintro e w8 ⟨v8, rfl, ho8, hb8⟩
         have HO8 := Lib.hid ho8
         have HB8 := Lib.hid (HB7.out.trans (hb8.mono HB7.out.size))
         clear ho8 hb8 HT7)
      | (go_at_call 15; refine (H15.out _ _ _ HO8.out).mono ?_
         rintro e w9 ⟨rfl, hb9⟩
         have HB9 := Lib.hid (HB8.out.trans (hb9.mono HB8.out.size))
         clear hb9)
      | (go_at_call 16; refine (H16.out _ HB9.out).mono ?_
         rintro e wa ⟨rfl, hba⟩
         have HBA := Lib.hid (HB9.out.trans (hba.mono HB9.out.size))
         clear hba))
    go_ret
    exact ⟨rfl, HBA.out⟩
end Go.Proofs.Ytnlcndlfdnogaaa.Bt
