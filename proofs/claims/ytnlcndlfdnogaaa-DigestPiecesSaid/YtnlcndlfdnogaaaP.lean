/- Keccak's permutation as a function. -/
import Derived.Test.YtnlcndlfdnogaaaD4
set_option linter.unusedVariables false
set_option linter.unusedSimpArgs false
namespace Go.Proofs.Ytnlcndlfdnogaaa.P
open D0 M D2 D4
abbrev L := List (BitVec 64)
theorem it_len {α : Type} {f : Nat → List α → List α} (h : ∀ i l, (f i l).length = l.length) : ∀ (n : Nat) (l : List α), (it f n l).length = l.length
  | 0, l => rfl
  | n + 1, l => (h n _).trans (it_len h n l)
def colS (a : L) (x : Nat) (c : L) : L := c.set x (gt a 0#64 x ^^^ gt a 0#64 (x + 5) ^^^ gt a 0#64 (x + 10) ^^^ gt a 0#64 (x + 15) ^^^ gt a 0#64 (x + 20))
def cols (a c : L) : L := it (colS a) 5 c
def thD (c : L) (x : Nat) : BitVec 64 := gt c 0#64 ((x + 4) % 5) ^^^ rl (gt c 0#64 ((x + 1) % 5)) 1
def thS (x : Nat) (d : BitVec 64) (y : Nat) (a : L) : L := a.set (x + 5 * y) (gt a 0#64 (x + 5 * y) ^^^ d)
def thX (c : L) (x : Nat) (a : L) : L := it (thS x (thD c x)) 5 a
def theta (c a : L) : L := it (thX c) 5 a
def rhoS (a : L) (x y : Nat) (b : L) : L := b.set (y + 5 * ((2 * x + 3 * y) % 5)) (rl (gt a 0#64 (x + 5 * y)) (gt offF 0 (x + 5 * y)))
def rhoX (a : L) (x : Nat) (b : L) : L := it (rhoS a x) 5 b
def rho (a b : L) : L := it (rhoX a) 5 b
def chiS (b : L) (y x : Nat) (a : L) : L := a.set (x + 5 * y) (gt b 0#64 (x + 5 * y) ^^^ (~~~ gt b 0#64 ((x + 1) % 5 + 5 * y) &&& gt b 0#64 ((x + 2) % 5 + 5 * y)))
def chiY (b : L) (y : Nat) (a : L) : L := it (chiS b y) 5 a
def chi (b a : L) : L := it (chiY b) 5 a
def iota (i : Nat) (a : L) : L := a.set 0 (gt a 0#64 0 ^^^ gt conF 0#64 i)
theorem cols_len (a : L) (n : Nat) (c : L) : (it (colS a) n c).length = c.length := it_len (fun _ _ => List.length_set) _ _
theorem thS_len (x : Nat) (d : BitVec 64) (n : Nat) (a : L) : (it (thS x d) n a).length = a.length := it_len (fun _ _ => List.length_set) _ _
theorem thX_len (c : L) (n : Nat) (a : L) : (it (thX c) n a).length = a.length := it_len (fun _ _ => thS_len _ _ _ _) _ _
theorem rhoS_len (a : L) (x n : Nat) (b : L) : (it (rhoS a x) n b).length = b.length := it_len (fun _ _ => List.length_set) _ _
theorem rhoX_len (a : L) (n : Nat) (b : L) : (it (rhoX a) n b).length = b.length := it_len (fun _ _ => rhoS_len _ _ _ _) _ _
theorem chiS_len (b : L) (y n : Nat) (a : L) : (it (chiS b y) n a).length = a.length := it_len (fun _ _ => List.length_set) _ _
theorem chiY_len (b : L) (n : Nat) (a : L) : (it (chiY b) n a).length = a.length := it_len (fun _ _ => chiS_len _ _ _ _) _ _
/-- A round on state, lanes, columns. -/
def roundF (i : Nat) (s : L × L × L) : L × L × L :=
  let c := cols s.1 s.2.2
  let a := theta c s.1
  let b := rho a s.2.1
  (iota i (chi b a), b, c)
def perIt (a : L) (n : Nat) : L × L × L := it roundF n (a, List.replicate 25 0#64, List.replicate 5 0#64)
/-- The permutation. -/
def permF (a : L) : L := (perIt a 24).1
theorem round_len (i : Nat) (s : L × L × L) : (roundF i s).1.length = s.1.length ∧ (roundF i s).2.1.length = s.2.1.length ∧ (roundF i s).2.2.length = s.2.2.length := by
  simp only [roundF, iota, chi, theta, rho, cols, List.length_set, chiY_len, thX_len, rhoX_len, cols_len, and_self]
theorem per_len {a : L} (h : a.length = 25) (n : Nat) : (perIt a n).1.length = 25 ∧ (perIt a n).2.1.length = 25 ∧ (perIt a n).2.2.length = 5 := by
  induction n with
  | zero => exact ⟨h, List.length_replicate, List.length_replicate⟩
  | succ n ih =>
    have e : perIt a (n + 1) = roundF n (perIt a n) := rfl
    rw [e]
    obtain ⟨h1, h2, h3⟩ := round_len n (perIt a n)
    exact ⟨h1.trans ih.1, h2.trans ih.2.1, h3.trans ih.2.2⟩
theorem it_zero {α : Type} (f : Nat → α → α) (s : α) : it f 0 s = s := rfl
theorem per_succ (a : L) (n : Nat) : perIt a (n + 1) = roundF n (perIt a n) := rfl
theorem per_zero (a : L) : perIt a 0 = (a, List.replicate 25 0#64, List.replicate 5 0#64) := rfl
theorem off_len : offF.length = 25 := by decide +kernel
theorem con_len : conF.length = 24 := by decide +kernel
theorem off_lt : ∀ k : Fin 25, gt offF 0 k.1 < 64 := by decide +kernel
end Go.Proofs.Ytnlcndlfdnogaaa.P
