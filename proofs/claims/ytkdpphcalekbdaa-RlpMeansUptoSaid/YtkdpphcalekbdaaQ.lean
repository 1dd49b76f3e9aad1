/- What the law's nodes tell: an item, and the nodes behind it. No program in sight. -/
import Derived.Test.YtkdpphcalekbdaaJ
set_option linter.unusedVariables false
set_option linter.unusedSimpArgs false
namespace Go.Proofs.Ytkdpphcalekbdaa.M
/-- The items of so many, up to m, as long as there are nodes. -/
def kidsF (rec : List Nd → It × List Nd) : Nat → Int → List Nd → List It × List Nd
  | 0, _, l => ([], l)
  | f + 1, m, l => if 0 < m ∧ 0 < l.length then ((rec l).1 :: (kidsF rec f (m - 1) (rec l).2).1, (kidsF rec f (m - 1) (rec l).2).2) else ([], l)
/-- The first item; d: how much deeper it may go. -/
def itemF : Nat → List Nd → It × List Nd
  | _, [] => (.mk 0 [] [], [])
  | 0, n :: l => (.mk n.1 n.2.1 [], l)
  | d + 1, n :: l => (.mk n.1 n.2.1 (kidsF (itemF d) l.length n.2.2 l).1, (kidsF (itemF d) l.length n.2.2 l).2)
/-- How many nodes and bytes. -/
def nbulk : List Nd → Nat
  | [] => 0
  | n :: l => n.2.1.length + 1 + nbulk l
theorem nbulk_length : ∀ l : List Nd, l.length ≤ nbulk l
  | [] => by simp [nbulk]
  | n :: l => by have := nbulk_length l; simp only [nbulk, List.length_cons]; omega
theorem nbulk_drop (l : List Nd) : ∀ j, nbulk (l.drop j) ≤ nbulk l := by
  induction l with
  | nil => intro j; simp
  | cons n l ih =>
    intro j
    cases j with
    | zero => simp
    | succ j => have := ih j; simp only [List.drop_succ_cons, nbulk]; omega
theorem kidsF_done (rec : List Nd → It × List Nd) (f : Nat) (m : Int) (l : List Nd) (h : ¬(0 < m ∧ 0 < l.length)) : kidsF rec f m l = ([], l) := by
  cases f with
  | zero => rfl
  | succ f => rw [kidsF, if_neg h]
/-- What is left lies behind what was read, and nothing is gained. -/
theorem kidsF_left {rec : List Nd → It × List Nd} (h : ∀ l, 0 < l.length → (∃ j, 1 ≤ j ∧ (rec l).2 = l.drop j) ∧ bulk (rec l).1 + nbulk (rec l).2 ≤ nbulk l) :
    ∀ f m l, (∃ j, (kidsF rec f m l).2 = l.drop j) ∧ bulks (kidsF rec f m l).1 + nbulk (kidsF rec f m l).2 ≤ nbulk l := by
  intro f
  induction f with
  | zero => intro m l; exact ⟨⟨0, by simp [kidsF]⟩, by simp [kidsF, bulks]⟩
  | succ f ih =>
    intro m l
    rw [kidsF]
    by_cases hc : 0 < m ∧ 0 < l.length
    · rw [if_pos hc]
      obtain ⟨⟨j, hj, e⟩, hb⟩ := h l hc.2
      obtain ⟨⟨j', e'⟩, hb'⟩ := ih (m - 1) (rec l).2
      refine ⟨⟨j + j', ?_⟩, ?_⟩
      · simp only; rw [e', e, List.drop_drop]
      · simp only [bulks]; omega
    · rw [if_neg hc]; exact ⟨⟨0, by simp⟩, by simp [bulks]⟩
theorem itemF_left : ∀ (d : Nat) (l : List Nd), 0 < l.length → (∃ j, 1 ≤ j ∧ (itemF d l).2 = l.drop j) ∧ bulk (itemF d l).1 + nbulk (itemF d l).2 ≤ nbulk l := by
  intro d
  induction d with
  | zero =>
    intro l hl
    cases l with
    | nil => simp at hl
    | cons n l => exact ⟨⟨1, by omega, by simp [itemF]⟩, by simp [itemF, bulk, bulks, nbulk]⟩
  | succ d ih =>
    intro l hl
    cases l with
    | nil => simp at hl
    | cons n l =>
      obtain ⟨⟨j, e⟩, hb⟩ := kidsF_left ih l.length n.2.2 l
      refine ⟨⟨j + 1, by omega, ?_⟩, ?_⟩
      · simp only [itemF]; rw [e]; simp
      · simp only [itemF, bulk, nbulk]; omega
end Go.Proofs.Ytkdpphcalekbdaa.M
