/- Why an item may not be. No program in sight. -/
import Derived.Test.YtkdpphcalekbdaaU
set_option linter.unusedVariables false
set_option linter.unusedSimpArgs false
namespace Go.Proofs.Ytkdpphcalekbdaa.M
mutual
/-- Why an item may not be; d: in how many lists it stands. -/
def checkF : Nat → It → Nat
  | d, .mk l bs ks => if l = 1 ∧ 64 ≤ d then 44 else if (l ≠ 0 ∧ l ≠ 1) ∨ (l = 0 ∧ 0 < ks.length) ∨ (l = 1 ∧ 0 < bs.length) then 40 else checksF (d + 1) ks
def checksF : Nat → List It → Nat
  | _, [] => 0
  | d, k :: ks => if checkF d k ≠ 0 then checkF d k else checksF d ks
end
theorem checksF_zero : ∀ (ks : List It) (d : Nat), (∀ k ∈ ks, checkF d k = 0) → checksF d ks = 0
  | [], d, _ => rfl
  | k :: ks, d, h => by
    rw [checksF, if_neg (by rw [h k (by simp)]; simp)]
    exact checksF_zero ks d fun k hk => h k (by simp [hk])
theorem checksF_first : ∀ (ks : List It) (d i : Nat) (hi : i < ks.length), (∀ j (hj : j < ks.length), j < i → checkF d (ks[j]'hj) = 0) → checkF d (ks[i]'hi) ≠ 0 → checksF d ks = checkF d (ks[i]'hi)
  | k :: ks, d, 0, hi, _, h => by
    simp only [List.getElem_cons_zero] at h ⊢
    rw [checksF, if_pos h]
  | k :: ks, d, i + 1, hi, h0, h => by
    have e0 := h0 0 (by simp) (by omega)
    simp only [List.getElem_cons_zero] at e0
    rw [checksF, if_neg (by rw [e0]; simp)]
    exact checksF_first ks d i (by simpa using hi) (fun j hj hji => h0 (j + 1) (by simpa using hj) (by omega)) h
end Go.Proofs.Ytkdpphcalekbdaa.M
