/- Numbers and their bytes: the digits of a number to the base 256, the highest first. Plain Lean, no program in sight. -/
import Derived.Lib.BitFns
import Derived.Lib.ItoaNum
namespace Go.Proofs.Ytkdpphcalekbdaa.M

set_option linter.unusedVariables false
theorem snoc_ind {α : Type} {P : List α → Prop} (nil : P []) (snoc : ∀ (l : List α) (b : α), P l → P (l ++ [b])) (l : List α) : P l := by
  have h : ∀ r : List α, P r.reverse := by
    intro r
    induction r with
    | nil => exact nil
    | cons a r ih => rw [List.reverse_cons]; exact snoc _ _ ih
  have := h l.reverse
  rwa [List.reverse_reverse] at this
/-- The bytes of a number, the highest first, none for 0. -/
def digits (n : Nat) : List UInt8 := if h : n = 0 then [] else digits (n / 256) ++ [UInt8.ofNat n]
termination_by n
decreasing_by omega
/-- The number that bytes are. -/
def ofDigits (l : List UInt8) : Nat := l.foldl (fun a b => a * 256 + b.toNat) 0

theorem digits_zero : digits 0 = [] := by unfold digits; simp
theorem digits_pos {n : Nat} (h : n ≠ 0) : digits n = digits (n / 256) ++ [UInt8.ofNat n] := by rw [digits]; simp [h]
theorem ofDigits_nil : ofDigits [] = 0 := rfl
theorem ofDigits_snoc (l : List UInt8) (b : UInt8) : ofDigits (l ++ [b]) = ofDigits l * 256 + b.toNat := by simp [ofDigits]
theorem toNat_ofNat_mod (n : Nat) : (UInt8.ofNat n).toNat = n % 256 := by simp
theorem ofDigits_digits (n : Nat) : ofDigits (digits n) = n := by
  induction n using Nat.strongRecOn with
  | _ n ih =>
    by_cases h : n = 0
    · subst h; rw [digits_zero]; rfl
    · rw [digits_pos h, ofDigits_snoc, ih (n / 256) (by omega), toNat_ofNat_mod]; omega
theorem digits_eq_nil {n : Nat} (h : digits n = []) : n = 0 := by
  have := ofDigits_digits n
  rw [h] at this
  exact this.symm
theorem digits_head (n : Nat) : ∀ b l, digits n = b :: l → b ≠ 0 := by
  induction n using Nat.strongRecOn with
  | _ n ih =>
    intro b l h
    by_cases h0 : n = 0
    · subst h0; rw [digits_zero] at h; cases h
    · rw [digits_pos h0] at h
      by_cases h1 : n / 256 = 0
      · rw [h1, digits_zero] at h
        simp only [List.nil_append, List.cons.injEq] at h
        rw [← h.1]
        intro e
        have := congrArg UInt8.toNat e
        rw [toNat_ofNat_mod] at this
        have h2 : (0 : UInt8).toNat = 0 := rfl
        omega
      · cases hd : digits (n / 256) with
        | nil => exact absurd (digits_eq_nil hd) h1
        | cons c r =>
          rw [hd] at h
          simp only [List.cons_append, List.cons.injEq] at h
          rw [← h.1]
          exact ih (n / 256) (by omega) c r hd
theorem ofDigits_lt (l : List UInt8) : ofDigits l < 256 ^ l.length := by
  induction l using snoc_ind with
  | nil => simp [ofDigits]
  | snoc l b ih =>
    rw [ofDigits_snoc, List.length_append, List.length_singleton, Nat.pow_succ]
    have := b.toNat_lt
    omega
theorem ofDigits_zero_of {l : List UInt8} (h : ofDigits l = 0) : ∀ b ∈ l, b = 0 := by
  induction l using snoc_ind with
  | nil => simp
  | snoc l b ih =>
    rw [ofDigits_snoc] at h
    intro c hc
    rcases List.mem_append.1 hc with hc | hc
    · exact ih (by omega) c hc
    · have : c = b := by simpa using hc
      subst this
      have h0 : c.toNat = 0 := by omega
      exact UInt8.toNat_inj.1 h0
theorem digits_ofDigits (l : List UInt8) (h : ∀ b r, l = b :: r → b ≠ 0) : digits (ofDigits l) = l := by
  induction l using snoc_ind with
  | nil => rw [ofDigits_nil, digits_zero]
  | snoc l b ih =>
    have hb := b.toNat_lt
    by_cases h0 : ofDigits (l ++ [b]) = 0
    · exfalso
      have hz := ofDigits_zero_of h0
      cases hl : l ++ [b] with
      | nil => simp at hl
      | cons c r => exact h c r hl (hz c (by rw [hl]; simp))
    · rw [digits_pos h0, ofDigits_snoc]
      have e1 : (ofDigits l * 256 + b.toNat) / 256 = ofDigits l := by omega
      have e2 : UInt8.ofNat (ofDigits l * 256 + b.toNat) = b := by
        apply UInt8.toNat_inj.1
        rw [toNat_ofNat_mod]; omega
      rw [e1, e2, ih]
      intro c r hl
      subst hl
      exact h c (r ++ [b]) rfl
theorem digits_length_lt (n : Nat) : n < 256 ^ (digits n).length := by
  have := ofDigits_lt (digits n)
  rwa [ofDigits_digits] at this
theorem digits_length_le {k : Nat} : ∀ {n : Nat}, n < 256 ^ k → (digits n).length ≤ k := by
  induction k with
  | zero => intro n h; have : n = 0 := by simpa using h
            subst this; rw [digits_zero]; simp
  | succ k ih =>
    intro n h
    by_cases h0 : n = 0
    · subst h0; rw [digits_zero]; simp
    · rw [digits_pos h0, List.length_append, List.length_singleton]
      have := ih (n := n / 256) (by rw [Nat.pow_succ] at h; omega)
      omega

/-- So many bytes of a number, the highest first. -/
def beK (k n : Nat) : List UInt8 := (List.range k).map fun j => UInt8.ofNat (n / 256 ^ (k - 1 - j))
theorem beK_length (k n : Nat) : (beK k n).length = k := by simp [beK]
theorem beK_succ (k n : Nat) : beK (k + 1) n = beK k (n / 256) ++ [UInt8.ofNat n] := by
  unfold beK
  rw [List.range_succ, List.map_append]
  congr 1
  · apply List.map_congr_left
    intro j hj
    have hj : j < k := by simpa using hj
    rw [show k + 1 - 1 - j = (k - 1 - j) + 1 from by omega, Nat.pow_succ, Nat.mul_comm, ← Nat.div_div_eq_div_mul]
  · simp
theorem beK_zero (k : Nat) : beK k 0 = List.replicate k 0 := by
  unfold beK
  apply List.ext_getElem
  · simp
  · intro i h1 h2; simp
theorem beK_eq (k : Nat) : ∀ n, n < 256 ^ k → beK k n = List.replicate (k - (digits n).length) 0 ++ digits n := by
  induction k with
  | zero =>
    intro n h
    have : n = 0 := by simpa using h
    subst this
    rw [digits_zero]; rfl
  | succ k ih =>
    intro n h
    by_cases h0 : n = 0
    · subst h0; rw [digits_zero, beK_zero]; simp
    · rw [beK_succ, ih (n / 256) (by rw [Nat.pow_succ] at h; omega), digits_pos h0]
      rw [List.length_append, List.length_singleton, List.append_assoc]
      congr 2
      omega
theorem beK_drop {k n : Nat} (h : n < 256 ^ k) : (beK k n).drop (k - (digits n).length) = digits n := by
  rw [beK_eq k n h]
  exact List.drop_left' (by simp)
theorem beK_get (k n j : Nat) (h : j < k) : (beK k n)[j]'(by rw [beK_length]; exact h) = UInt8.ofNat (n / 256 ^ (k - 1 - j)) := by simp [beK]
/-- Where its first digit stands. -/
theorem beK_lead {k n : Nat} (h : n < 256 ^ k) (j : Nat) (hj : j < k) : (j < k - (digits n).length → (beK k n)[j]'(by rw [beK_length]; exact hj) = 0) ∧ (j = k - (digits n).length → (beK k n)[j]'(by rw [beK_length]; exact hj) ≠ 0) := by
  have hl := digits_length_le h
  constructor
  · intro h1
    have : (beK k n)[j]? = some 0 := by
      rw [beK_eq k n h, List.getElem?_append_left (by simpa using h1), List.getElem?_replicate]
      simp [h1]
    rw [List.getElem?_eq_getElem (by rw [beK_length]; exact hj)] at this
    exact Option.some.inj this
  · intro h1
    cases hd : digits n with
    | nil => rw [hd] at h1; simp at h1; omega
    | cons b r =>
      have : (beK k n)[j]? = some b := by
        rw [beK_eq k n h, hd, List.getElem?_append_right (by rw [List.length_replicate, ← hd]; omega), List.length_replicate, ← hd, h1, Nat.sub_self, hd]
        rfl
      rw [List.getElem?_eq_getElem (by rw [beK_length]; exact hj)] at this
      rw [Option.some.inj this]
      exact digits_head n b r hd

/-- A word of four numbers of 64 bits. -/
def val (a b c d : Int) : Nat := (a + 18446744073709551616 * b + 340282366920938463463374607431768211456 * c + 6277101735386680763835789423207666416102355444464034512896 * d).toNat
/-- A number of 64 bits. -/
def U64 (a : Int) : Prop := 0 ≤ a ∧ a < 18446744073709551616

theorem bitLen_digits (n L : Nat) (h1 : n < 2 ^ L) (h2 : n ≠ 0 → 2 ^ (L - 1) ≤ n ∧ 1 ≤ L) (h3 : n = 0 → L = 0) : (L + 7) / 8 = (digits n).length := by
  by_cases h0 : n = 0
  · rw [h3 h0, h0, digits_zero]; rfl
  · obtain ⟨h4, h5⟩ := h2 h0
    have e : ∀ m : Nat, 256 ^ m = 2 ^ (8 * m) := fun m => by rw [Nat.pow_mul]
    apply Nat.le_antisymm
    · have hlt := digits_length_lt n
      rw [e] at hlt
      have : 2 ^ (L - 1) < 2 ^ (8 * (digits n).length) := by omega
      have := (Nat.pow_lt_pow_iff_right (by omega : 1 < 2)).1 this
      omega
    · apply digits_length_le
      rw [e]
      exact Nat.lt_of_lt_of_le h1 (Nat.pow_le_pow_right (by omega) (by omega))
end Go.Proofs.Ytkdpphcalekbdaa.M
