/- Decoding, in plain Lean. -/
import Derived.Test.YtkdpphcalekbdaaU
set_option linter.unusedVariables false
set_option linter.unusedSimpArgs false
namespace Go.Proofs.Ytkdpphcalekbdaa.M
/-- What a head says lies within the bytes. -/
theorem hd_ok {bs : List UInt8} {l f t : Nat} (h : hd bs = .ok (l, f, t)) : l ≤ 1 ∧ f ≤ t ∧ t ≤ bs.length ∧ 1 ≤ t ∧ (l = 1 → 1 ≤ f) := by
  cases bs with
  | nil => simp [hd] at h
  | cons c r =>
    have key : ∀ l0 base, l0 ≤ 1 → hdBody r l0 base = .ok (l, f, t) → l ≤ 1 ∧ f ≤ t ∧ t ≤ (c :: r).length ∧ 1 ≤ t ∧ (l = 1 → 1 ≤ f) := by
      intro l0 base hl0 hb
      unfold hdBody at hb
      simp only [List.length_cons]
      split at hb
      · split at hb
        · cases hb
        · split at hb
          · cases hb
          · injection hb with hb; injection hb with e1 hb; injection hb with e2 e3; omega
      · split at hb
        · cases hb
        · split at hb
          · cases hb
          · injection hb with hb; injection hb with e1 hb; injection hb with e2 e3; omega
    rw [hd_cons] at h
    split at h
    · injection h with h; injection h with e1 h; injection h with e2 e3; simp only [List.length_cons]; omega
    · split at h
      · exact key 0 _ (by omega) h
      · exact key 1 _ (by omega) h
/-- The items of a payload. -/
def dkids (rec : List UInt8 → Except Nat (It × Nat)) : Nat → List UInt8 → Except Nat (List It)
  | 0, _ => .ok []
  | f + 1, p => if p.length = 0 then .ok [] else
    match rec p with
    | .error e => .error e
    | .ok (k, n) =>
      match dkids rec f (p.drop n) with
      | .error e => .error e
      | .ok ks => .ok (k :: ks)
/-- The first item of bytes and how many it has; d: in how many more lists it may stand. -/
def decF : Nat → List UInt8 → Except Nat (It × Nat)
  | d, bs =>
    match hd bs with
    | .error e => .error e
    | .ok (l, f, t) =>
      if l = 0 then .ok (.mk 0 ((bs.take t).drop f) [], t)
      else match d with
        | 0 => .error 44
        | d + 1 =>
          match dkids (decF d) ((bs.take t).drop f).length ((bs.take t).drop f) with
          | .error e => .error e
          | .ok ks => .ok (.mk 1 [] ks, t)
theorem dkids_done (rec : List UInt8 → Except Nat (It × Nat)) (f : Nat) : dkids rec f [] = .ok [] := by cases f <;> simp [dkids]
theorem dkids_step (rec : List UInt8 → Except Nat (It × Nat)) (f : Nat) (p : List UInt8) (h : 0 < p.length) : dkids rec (f + 1) p =
    match rec p with
    | .error e => .error e
    | .ok (k, n) =>
      match dkids rec f (p.drop n) with
      | .error e => .error e
      | .ok ks => .ok (k :: ks) := by
  rw [dkids, if_neg (by omega)]
/-- An item's bytes: at least one, no more than there are; it holds no more than they say. -/
theorem decF_ok : ∀ (d : Nat) (bs : List UInt8) (x : It) (t : Nat), decF d bs = .ok (x, t) → 1 ≤ t ∧ t ≤ bs.length ∧ bulk x ≤ 2 * t := by
  intro d
  induction d with
  | zero =>
    intro bs x t h
    rw [decF] at h
    cases hh : hd bs with
    | error e => rw [hh] at h; cases h
    | ok r =>
      obtain ⟨l, f, t0⟩ := r
      rw [hh] at h
      obtain ⟨h1, h2, h3, h4, h5⟩ := hd_ok hh
      simp only at h
      by_cases hl : l = 0
      · rw [if_pos hl] at h
        injection h with h; injection h with e1 e2
        subst e1; subst e2
        simp only [bulk, bulks, List.length_drop, List.length_take]
        omega
      · rw [if_neg hl] at h; cases h
  | succ d ih =>
    have key : ∀ f p ks, dkids (decF d) f p = .ok ks → p.length ≤ f → bulks ks ≤ 2 * p.length := by
      intro f
      induction f with
      | zero => intro p ks h hf; simp [dkids] at h; subst h; simp [bulks]
      | succ f ihf =>
        intro p ks h hf
        by_cases hp : p.length = 0
        · rw [dkids, if_pos hp] at h; cases h; simp [bulks]
        · rw [dkids_step _ _ _ (by omega)] at h
          cases hr : decF d p with
          | error e => rw [hr] at h; cases h
          | ok r =>
            obtain ⟨k, n⟩ := r
            rw [hr] at h
            simp only at h
            obtain ⟨a1, a2, a3⟩ := ih p k n hr
            cases hk : dkids (decF d) f (p.drop n) with
            | error e => rw [hk] at h; cases h
            | ok ks' =>
              rw [hk] at h
              injection h with h
              subst h
              have := ihf (p.drop n) ks' hk (by rw [List.length_drop]; omega)
              rw [List.length_drop] at this
              simp only [bulks]
              omega
    intro bs x t h
    rw [decF] at h
    cases hh : hd bs with
    | error e => rw [hh] at h; cases h
    | ok r =>
      obtain ⟨l, f, t0⟩ := r
      rw [hh] at h
      obtain ⟨h1, h2, h3, h4, h5⟩ := hd_ok hh
      simp only at h
      by_cases hl : l = 0
      · rw [if_pos hl] at h
        injection h with h; injection h with e1 e2
        subst e1; subst e2
        simp only [bulk, bulks, List.length_drop, List.length_take]
        omega
      · rw [if_neg hl] at h
        cases hk : dkids (decF d) ((bs.take t0).drop f).length ((bs.take t0).drop f) with
        | error e => rw [hk] at h; cases h
        | ok ks =>
          rw [hk] at h
          injection h with h; injection h with e1 e2
          subst e1; subst e2
          have := key _ _ ks hk (Nat.le_refl _)
          simp only [List.length_drop, List.length_take] at this
          simp only [bulk, List.length_nil]
          have := h5 (by omega)
          omega
end Go.Proofs.Ytkdpphcalekbdaa.M
