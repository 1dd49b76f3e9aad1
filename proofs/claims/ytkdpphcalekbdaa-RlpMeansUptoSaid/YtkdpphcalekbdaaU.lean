/- Forms of items. No program in sight. -/
import Derived.Test.YtkdpphcalekbdaaP
import Derived.Test.YtkdpphcalekbdaaI
set_option linter.unusedVariables false
set_option linter.unusedSimpArgs false
namespace Go.Proofs.Ytkdpphcalekbdaa.M
mutual
/-- The form of an item that may be. -/
def formF : It → List UInt8
  | .mk l bs ks => if l = 0 then (if bs.length = 1 ∧ (bs.headD 0).toNat < 128 then bs else headF 128 bs.length ++ bs) else headF 192 (formsF ks).length ++ formsF ks
def formsF : List It → List UInt8
  | [] => []
  | k :: ks => formF k ++ formsF ks
end
/-- The payload. -/
def payF : It → List UInt8
  | .mk l bs ks => if l = 0 then bs else formsF ks
mutual
/-- It is built as items are. -/
def wfI : It → Prop
  | .mk l bs ks => (l = 0 ∧ ks = []) ∨ (l = 1 ∧ bs = [] ∧ wfIs ks)
def wfIs : List It → Prop
  | [] => True
  | k :: ks => wfI k ∧ wfIs ks
end
theorem wfIs_mem : ∀ {ks : List It}, wfIs ks → ∀ k ∈ ks, wfI k
  | [], _, k, h => by cases h
  | x :: ks, h, k, hk => by
    simp only [wfIs] at h
    rcases List.mem_cons.1 hk with e | e
    · subst e; exact h.1
    · exact wfIs_mem h.2 k e
theorem formsF_append (a b : List It) : formsF (a ++ b) = formsF a ++ formsF b := by
  induction a with
  | nil => simp [formsF]
  | cons x a ih => simp only [List.cons_append, formsF, ih, List.append_assoc]
theorem headF_length (b b' n : Nat) : (headF b n).length = (headF b' n).length := by
  unfold headF; split <;> simp
theorem headF_pos (b n : Nat) : 1 ≤ (headF b n).length := by
  unfold headF; split <;> simp
theorem headF_le (b n : Nat) (h : n < 1099511627776) : (headF b n).length ≤ 6 := by
  unfold headF
  split
  · simp
  · have : (digits n).length ≤ 5 := digits_length_le (by omega)
    simp; omega
mutual
theorem formF_le : ∀ (x : It), bulk x ≤ 100000000000 → (formF x).length ≤ 7 * bulk x
  | .mk l bs ks, h => by
    simp only [bulk] at h
    simp only [formF, bulk]
    by_cases hl : l = 0
    · rw [if_pos hl]
      by_cases hb : bs.length = 1 ∧ (bs.headD 0).toNat < 128
      · rw [if_pos hb]; omega
      · rw [if_neg hb, List.length_append]
        have := headF_le 128 bs.length (by omega)
        omega
    · rw [if_neg hl, List.length_append]
      have h1 := formsF_le ks (by omega)
      have := headF_le 192 (formsF ks).length (by omega)
      omega
theorem formsF_le : ∀ (ks : List It), bulks ks ≤ 100000000000 → (formsF ks).length ≤ 7 * bulks ks
  | [], _ => by simp [formsF]
  | k :: ks, h => by
    simp only [bulks] at h
    have h1 := formF_le k (by omega)
    have h2 := formsF_le ks (by omega)
    simp only [formsF, bulks, List.length_append]
    omega
end
theorem formsF_take_succ (ks : List It) (k : Nat) (h : k < ks.length) : formsF (ks.take (k + 1)) = formsF (ks.take k) ++ formF (ks[k]'h) := by
  rw [show ks.take (k + 1) = ks.take k ++ [ks[k]'h] from (List.take_append_getElem h).symm, formsF_append]
  simp [formsF]
end Go.Proofs.Ytkdpphcalekbdaa.M
