/- Keccak's permutation in closed form: the reference's round is the program's; no two states go to one. -/
import Derived.Test.YtnlcndlfdnogaaaP
set_option linter.unusedVariables false
set_option linter.unusedSimpArgs false
namespace Go.Proofs.Ytnlcndlfdnogaaa.Pj
open D0 M D2 D4 P
def z5 : L := List.replicate 5 0#64
def z25 : L := List.replicate 25 0#64
/-- A round on the state alone. -/
def rnd (i : Nat) (a : L) : L := iota i (chi (rho (theta (cols a z5) a) z25) z25)
/-- The reference's. -/
def rhoSR (a c : L) (x y : Nat) (b : L) : L := b.set (y + 5 * ((2 * x + 3 * y) % 5)) (rl (gt a 0#64 (x + 5 * y) ^^^ gt c 0#64 ((x + 4) % 5) ^^^ rl (gt c 0#64 ((x + 1) % 5)) 1) (gt offF 0 (x + 5 * y)))
def rhoXR (a c : L) (x : Nat) (b : L) : L := it (rhoSR a c x) 5 b
def rhoR (a c : L) : L := it (rhoXR a c) 5 z25
def chiSR (b : L) (x y : Nat) (a : L) : L := chiS b y x a
def chiXR (b : L) (x : Nat) (a : L) : L := it (chiSR b x) 5 a
def chiR (b a : L) : L := it (chiXR b) 5 a
def rndR (i : Nat) (a : L) : L := iota i (chiR (rhoR a (cols a z5)) a)
theorem list_map (n : Nat) (l : L) (h : l.length = n) : l = (List.range n).map fun k => gt l 0#64 k := by
  apply List.ext_getElem
  · simp [h]
  · intro i h1 h2
    simp [gt, List.getD, List.getElem?_eq_getElem h1]
theorem gt_map (n : Nat) (f : Nat → BitVec 64) (k : Nat) (h : k < n) : gt ((List.range n).map f) 0#64 k = f k := by
  simp [gt, List.getD, h]
theorem ext_gt (n : Nat) {a b : L} (ha : a.length = n) (hb : b.length = n) (h : ∀ k, k < n → gt a 0#64 k = gt b 0#64 k) : a = b := by
  rw [list_map n a ha, list_map n b hb]
  apply List.map_congr_left
  intro k hk
  exact h k (List.mem_range.1 hk)
def C (a : L) (x : Nat) : BitVec 64 := gt a 0#64 x ^^^ gt a 0#64 (x + 5) ^^^ gt a 0#64 (x + 10) ^^^ gt a 0#64 (x + 15) ^^^ gt a 0#64 (x + 20)
def src (p : Nat) : Nat := (3 * (p / 5) + p % 5) % 5 + 5 * (p % 5)
def chiV (b : L) (k : Nat) : BitVec 64 := gt b 0#64 (k % 5 + 5 * (k / 5)) ^^^ (~~~ gt b 0#64 ((k % 5 + 1) % 5 + 5 * (k / 5)) &&& gt b 0#64 ((k % 5 + 2) % 5 + 5 * (k / 5)))
theorem cols_map (a : L) (f : Nat → BitVec 64) : cols a ((List.range 5).map f) = (List.range 5).map (C a) := by kernel_rfl
theorem theta_map (c : L) (f : Nat → BitVec 64) : theta c ((List.range 25).map f) = (List.range 25).map fun k => f k ^^^ thD c (k % 5) := by kernel_rfl
theorem rho_map (a : L) (f : Nat → BitVec 64) : rho a ((List.range 25).map f) = (List.range 25).map fun p => rl (gt a 0#64 (src p)) (gt offF 0 (src p)) := by kernel_rfl
theorem rhoR_map (a c : L) : rhoR a c = (List.range 25).map fun p => rl (gt a 0#64 (src p) ^^^ gt c 0#64 ((src p % 5 + 4) % 5) ^^^ rl (gt c 0#64 ((src p % 5 + 1) % 5)) 1) (gt offF 0 (src p)) := by kernel_rfl
theorem chi_map (b : L) (f : Nat → BitVec 64) : chi b ((List.range 25).map f) = (List.range 25).map (chiV b) := by kernel_rfl
theorem chiR_map (b : L) (f : Nat → BitVec 64) : chiR b ((List.range 25).map f) = (List.range 25).map (chiV b) := by kernel_rfl
theorem z5_map : z5 = (List.range 5).map fun _ => 0#64 := by decide +kernel
theorem z25_map : z25 = (List.range 25).map fun _ => 0#64 := by decide +kernel
theorem cols_eq (a : L) {c : L} (h : c.length = 5) : cols a c = (List.range 5).map (C a) := by rw [list_map 5 c h, cols_map]
theorem src_lt : ∀ p : Fin 25, src p.1 < 25 := by decide +kernel
/-- A round in closed form. -/
def thV (a : L) (k : Nat) : BitVec 64 := gt a 0#64 k ^^^ (C a ((k % 5 + 4) % 5) ^^^ rl (C a ((k % 5 + 1) % 5)) 1)
def rhV (a : L) (p : Nat) : BitVec 64 := rl (gt a 0#64 (src p)) (gt offF 0 (src p))
def th (a : L) : L := (List.range 25).map (thV a)
def rh (a : L) : L := (List.range 25).map (rhV a)
def ch (a : L) : L := (List.range 25).map (chiV a)
theorem th_len (a : L) : (th a).length = 25 := by simp [th]
theorem rh_len (a : L) : (rh a).length = 25 := by simp [rh]
theorem ch_len (a : L) : (ch a).length = 25 := by simp [ch]
theorem theta_eq {a : L} (h : a.length = 25) {c : L} (hc : c.length = 5) : theta (cols a c) a = th a := by
  rw [cols_eq a hc]
  have e := theta_map ((List.range 5).map (C a)) (fun k => gt a 0#64 k)
  rw [← list_map 25 a h] at e
  rw [e]
  unfold th
  apply List.map_congr_left
  intro k hk
  unfold thV thD
  rw [gt_map 5 _ _ (by omega), gt_map 5 _ _ (by omega)]
theorem rho_eq (a : L) {b : L} (h : b.length = 25) : rho a b = rh a := by
  have e := rho_map a (fun k => gt b 0#64 k)
  rw [← list_map 25 b h] at e
  exact e
theorem chi_eq (b : L) {a : L} (h : a.length = 25) : chi b a = ch b := by
  have e := chi_map b (fun k => gt a 0#64 k)
  rw [← list_map 25 a h] at e
  exact e
theorem chiR_eq (b : L) {a : L} (h : a.length = 25) : chiR b a = ch b := by
  have e := chiR_map b (fun k => gt a 0#64 k)
  rw [← list_map 25 a h] at e
  exact e
theorem rhoR_eq {a : L} (h : a.length = 25) {c : L} (hc : c.length = 5) : rhoR a (cols a c) = rh (th a) := by
  rw [rhoR_map, cols_eq a hc]
  unfold rh
  apply List.map_congr_left
  intro p hp
  have hs := src_lt ⟨p, List.mem_range.1 hp⟩
  simp only at hs
  unfold rhV th
  rw [gt_map 25 _ _ hs]
  unfold thV
  rw [gt_map 5 _ _ (by omega), gt_map 5 _ _ (by omega), BitVec.xor_assoc]
/-- A round. -/
def rd (i : Nat) (a : L) : L := iota i (ch (rh (th a)))
theorem iota_len (i : Nat) (a : L) : (iota i a).length = a.length := List.length_set
theorem rd_len (i : Nat) (a : L) : (rd i a).length = 25 := by unfold rd; rw [iota_len, ch_len]
theorem rndR_eq (i : Nat) {a : L} (h : a.length = 25) : rndR i a = rd i a := by
  unfold rndR rd
  rw [rhoR_eq h (show z5.length = 5 from rfl), chiR_eq _ h]
theorem round_eq (i : Nat) (a b c : L) (h1 : a.length = 25) (h2 : b.length = 25) (h3 : c.length = 5) : (roundF i (a, b, c)).1 = rd i a := by
  unfold roundF rd
  simp only
  rw [theta_eq h1 h3, rho_eq _ h2, chi_eq _ (th_len a)]
theorem per_eq (a : L) (h : a.length = 25) : ∀ n, (perIt a n).1 = it rd n a
  | 0 => rfl
  | n + 1 => by
    rw [per_succ]
    have hl := per_len h n
    have ih := per_eq a h n
    obtain ⟨h1, h2, h3⟩ := hl
    generalize perIt a n = s at *
    obtain ⟨x, y, z⟩ := s
    rw [round_eq n x y z h1 h2 h3]
    show rd n x = rd n (it rd n a)
    rw [← ih]
theorem perR_eq (a : L) (h : a.length = 25) (n : Nat) : it rndR n a = it rd n a ∧ (it rd n a).length = 25 := by
  induction n with
  | zero => exact ⟨by simp only [it], by simpa only [it] using h⟩
  | succ n ihn =>
    obtain ⟨ih, hl⟩ := ihn
    rw [it_succ, it_succ, ih, rndR_eq n hl]
    exact ⟨rfl, rd_len _ _⟩
/-- The reference's permutation is the program's. -/
theorem perm_ref (a : L) (h : a.length = 25) : it rndR 24 a = permF a := by
  unfold permF
  rw [per_eq a h, (perR_eq a h 24).1]
/-- One-to-one, step by step. -/
theorem rl_bit (x : BitVec 64) (k j : Nat) (hk : k ≤ 64) (hj : j < 64) : (rl x k).getLsbD j = x.getLsbD ((j + (64 - k)) % 64) := by
  unfold rl
  rw [BitVec.getLsbD_or, BitVec.getLsbD_shiftLeft, BitVec.getLsbD_ushiftRight]
  by_cases h : j < k
  · rw [show (j + (64 - k)) % 64 = 64 - k + j by omega]
    simp [h, hj]
  · rw [show (j + (64 - k)) % 64 = j - k by omega, BitVec.getLsbD_of_ge x (64 - k + j) (by omega)]
    simp [h, hj]
theorem rl_ext {x y : BitVec 64} (h : ∀ j, j < 64 → x.getLsbD j = y.getLsbD j) : x = y := BitVec.eq_of_getLsbD_eq h
theorem rl_xor (x y : BitVec 64) (k : Nat) (hk : k ≤ 64) : rl (x ^^^ y) k = rl x k ^^^ rl y k := by
  apply rl_ext
  intro j hj
  rw [BitVec.getLsbD_xor, rl_bit _ _ _ hk hj, rl_bit _ _ _ hk hj, rl_bit _ _ _ hk hj, BitVec.getLsbD_xor]
theorem rl_rl (x : BitVec 64) (k : Nat) (hk : 2 * k ≤ 64) : rl (rl x k) k = rl x (2 * k) := by
  apply rl_ext
  intro j hj
  rw [rl_bit _ _ _ (by omega) hj, rl_bit _ _ _ (by omega) (by omega), rl_bit _ _ _ hk hj]
  congr 1
  omega
theorem rl_64 (x : BitVec 64) : rl x 64 = x := by
  apply rl_ext
  intro j hj
  rw [rl_bit _ _ _ (by omega) hj]
  congr 1
  omega
theorem rl_inj {x y : BitVec 64} (k : Nat) (hk : k ≤ 64) (h : rl x k = rl y k) : x = y := by
  apply rl_ext
  intro j hj
  have := congrArg (fun z => BitVec.getLsbD z ((j + k) % 64)) h
  rw [rl_bit _ _ _ hk (by omega), rl_bit _ _ _ hk (by omega)] at this
  rw [show ((j + k) % 64 + (64 - k)) % 64 = j by omega] at this
  exact this
theorem iota_inj (i : Nat) {a b : L} (ha : a.length = 25) (hb : b.length = 25) (h : iota i a = iota i b) : a = b := by
  apply ext_gt 25 ha hb
  intro k hk
  have := congrArg (fun l => gt l 0#64 k) h
  unfold iota at this
  by_cases h0 : k = 0
  · subst h0
    simp only [gt, List.getD, List.getElem?_set_self (show 0 < a.length by omega), List.getElem?_set_self (show 0 < b.length by omega), Option.getD_some] at this
    have h2 := congrArg (· ^^^ gt conF 0#64 i) this
    simpa [BitVec.xor_assoc, gt, List.getD] using h2
  · simpa [gt, List.getD, List.getElem?_set_ne (fun h => h0 h.symm)] using this
theorem chi_bool : ∀ p0 p1 p2 p3 p4 q0 q1 q2 q3 q4 : Bool, ((p0 ^^ (!p1 && p2)) == (q0 ^^ (!q1 && q2)) && (p1 ^^ (!p2 && p3)) == (q1 ^^ (!q2 && q3)) && (p2 ^^ (!p3 && p4)) == (q2 ^^ (!q3 && q4)) && (p3 ^^ (!p4 && p0)) == (q3 ^^ (!q4 && q0)) && (p4 ^^ (!p0 && p1)) == (q4 ^^ (!q0 && q1))) = true → (p0 == q0 && p1 == q1 && p2 == q2 && p3 == q3 && p4 == q4) = true := by decide +kernel
theorem chi5 (p0 p1 p2 p3 p4 q0 q1 q2 q3 q4 : BitVec 64) (h0 : p0 ^^^ (~~~p1 &&& p2) = q0 ^^^ (~~~q1 &&& q2)) (h1 : p1 ^^^ (~~~p2 &&& p3) = q1 ^^^ (~~~q2 &&& q3)) (h2 : p2 ^^^ (~~~p3 &&& p4) = q2 ^^^ (~~~q3 &&& q4))
    (h3 : p3 ^^^ (~~~p4 &&& p0) = q3 ^^^ (~~~q4 &&& q0)) (h4 : p4 ^^^ (~~~p0 &&& p1) = q4 ^^^ (~~~q0 &&& q1)) : p0 = q0 ∧ p1 = q1 ∧ p2 = q2 ∧ p3 = q3 ∧ p4 = q4 := by
  have key : ∀ j, j < 64 → p0.getLsbD j = q0.getLsbD j ∧ p1.getLsbD j = q1.getLsbD j ∧ p2.getLsbD j = q2.getLsbD j ∧ p3.getLsbD j = q3.getLsbD j ∧ p4.getLsbD j = q4.getLsbD j := by
    intro j hj
    have b0 := congrArg (fun z => BitVec.getLsbD z j) h0
    have b1 := congrArg (fun z => BitVec.getLsbD z j) h1
    have b2 := congrArg (fun z => BitVec.getLsbD z j) h2
    have b3 := congrArg (fun z => BitVec.getLsbD z j) h3
    have b4 := congrArg (fun z => BitVec.getLsbD z j) h4
    simp only [BitVec.getLsbD_xor, BitVec.getLsbD_and, BitVec.getLsbD_not, hj, decide_true, Bool.true_and] at b0 b1 b2 b3 b4
    have := chi_bool (p0.getLsbD j) (p1.getLsbD j) (p2.getLsbD j) (p3.getLsbD j) (p4.getLsbD j) (q0.getLsbD j) (q1.getLsbD j) (q2.getLsbD j) (q3.getLsbD j) (q4.getLsbD j) (by rw [b0, b1, b2, b3, b4]; simp)
    simpa [and_assoc] using this
  exact ⟨rl_ext fun j hj => (key j hj).1, rl_ext fun j hj => (key j hj).2.1, rl_ext fun j hj => (key j hj).2.2.1, rl_ext fun j hj => (key j hj).2.2.2.1, rl_ext fun j hj => (key j hj).2.2.2.2⟩
theorem ch_inj {a b : L} (ha : a.length = 25) (hb : b.length = 25) (h : ch a = ch b) : a = b := by
  have hk : ∀ k, k < 25 → chiV a k = chiV b k := fun k hk => by
    have := congrArg (fun l => gt l 0#64 k) h
    unfold ch at this
    simpa [gt_map 25 _ _ hk] using this
  have row : ∀ y, y < 5 → ∀ x, x < 5 → gt a 0#64 (x + 5 * y) = gt b 0#64 (x + 5 * y) := by
    intro y hy
    have e : ∀ x, x < 5 → gt a 0#64 (x + 5 * y) ^^^ (~~~ gt a 0#64 ((x + 1) % 5 + 5 * y) &&& gt a 0#64 ((x + 2) % 5 + 5 * y)) = gt b 0#64 (x + 5 * y) ^^^ (~~~ gt b 0#64 ((x + 1) % 5 + 5 * y) &&& gt b 0#64 ((x + 2) % 5 + 5 * y)) := by
      intro x hx
      have := hk (x + 5 * y) (by omega)
      unfold chiV at this
      rw [show (x + 5 * y) % 5 = x by omega, show (x + 5 * y) / 5 = y by omega] at this
      exact this
    obtain ⟨r0, r1, r2, r3, r4⟩ := chi5 _ _ _ _ _ _ _ _ _ _ (e 0 (by omega)) (e 1 (by omega)) (e 2 (by omega)) (e 3 (by omega)) (e 4 (by omega))
    intro x hx
    match x, hx with
    | 0, _ => exact r0
    | 1, _ => exact r1
    | 2, _ => exact r2
    | 3, _ => exact r3
    | 4, _ => exact r4
  apply ext_gt 25 ha hb
  intro k hk
  have := row (k / 5) (by omega) (k % 5) (by omega)
  rwa [show k % 5 + 5 * (k / 5) = k by omega] at this
theorem src_dst : ∀ k : Fin 25, (k.1 / 5 + 5 * ((2 * (k.1 % 5) + 3 * (k.1 / 5)) % 5)) < 25 ∧ src (k.1 / 5 + 5 * ((2 * (k.1 % 5) + 3 * (k.1 / 5)) % 5)) = k.1 := by decide +kernel
theorem rh_inj {a b : L} (ha : a.length = 25) (hb : b.length = 25) (h : rh a = rh b) : a = b := by
  apply ext_gt 25 ha hb
  intro k hk
  obtain ⟨h1, h2⟩ := src_dst ⟨k, hk⟩
  simp only at h1 h2
  have := congrArg (fun l => gt l 0#64 (k / 5 + 5 * ((2 * (k % 5) + 3 * (k / 5)) % 5))) h
  unfold rh at this
  rw [gt_map 25 _ _ h1, gt_map 25 _ _ h1] at this
  unfold rhV at this
  rw [h2] at this
  exact rl_inj _ (by have := off_lt ⟨k, hk⟩; simp only at this; omega) this
/-- Columns that theta would hide: none. -/
theorem lin_step (c : Nat → BitVec 64) (k s t : Nat) (hk : 2 * k ≤ 64) (h : ∀ i, rl (c i) k = c (i + s) ^^^ c (i + t)) : ∀ i, rl (c i) (2 * k) = c (i + 2 * s) ^^^ c (i + 2 * t) := by
  intro i
  rw [← rl_rl _ _ hk, h i, rl_xor _ _ _ (by omega), h, h, show i + s + s = i + 2 * s by omega, show i + s + t = i + t + s by omega, show i + t + t = i + 2 * t by omega]
  generalize c (i + 2 * s) = x
  generalize c (i + t + s) = y
  generalize c (i + 2 * t) = z
  rw [BitVec.xor_assoc, ← BitVec.xor_assoc y y z, BitVec.xor_self, BitVec.zero_xor]
theorem per5 (c : Nat → BitVec 64) (hp : ∀ i, c (i + 5) = c i) (n : Nat) : ∀ i, c (i + 5 * n) = c i := by
  induction n with
  | zero => intro i; rfl
  | succ n ih => intro i; rw [show i + 5 * (n + 1) = i + 5 * n + 5 by omega, hp, ih]
theorem col_zero (c : Nat → BitVec 64) (hp : ∀ i, c (i + 5) = c i) (h : ∀ i, rl (c i) 1 = c (i + 4) ^^^ c (i + 3)) : ∀ i, c i = 0#64 := by
  have h2 := lin_step c 1 4 3 (by omega) h
  have h4 := lin_step c 2 8 6 (by omega) h2
  have h8 := lin_step c 4 16 12 (by omega) h4
  have h16 := lin_step c 8 32 24 (by omega) h8
  have h32 := lin_step c 16 64 48 (by omega) h16
  have h64 := lin_step c 32 128 96 (by omega) h32
  have p := fun n i => per5 c hp n i
  have e1 : ∀ i, c i = c (i + 1) ^^^ c (i + 2) := by
    intro i
    have a := h64 i
    rw [show 2 * 32 = 64 from rfl, rl_64, show i + 2 * 128 = i + 1 + 5 * 51 by omega, show i + 2 * 96 = i + 2 + 5 * 38 by omega, p, p] at a
    exact a
  have e4 : ∀ i, rl (c i) 4 = c i := by
    intro i
    have a := h4 i
    rw [show 2 * 2 = 4 from rfl, show i + 2 * 8 = i + 1 + 5 * 3 by omega, show i + 2 * 6 = i + 2 + 5 * 2 by omega, p, p, ← e1] at a
    exact a
  have e16 : ∀ i, rl (c i) 16 = c i := by
    intro i
    have a8 : rl (c i) 8 = c i := by rw [show 8 = 2 * 4 from rfl, ← rl_rl _ _ (by omega), e4, e4]
    rw [show 16 = 2 * 8 from rfl, ← rl_rl _ _ (by omega), a8, a8]
  have e3 : ∀ i, c i = c (i + 4) ^^^ c (i + 3) := by
    intro i
    have a := h16 i
    rw [show 2 * 8 = 16 from rfl, e16, show i + 2 * 32 = i + 4 + 5 * 12 by omega, show i + 2 * 24 = i + 3 + 5 * 9 by omega, p, p] at a
    exact a
  have e2 : ∀ i, c i = c (i + 2) := by
    intro i
    have a := e3 i
    have b := e3 (i + 4)
    rw [show i + 4 + 4 = i + 3 + 5 by omega, show i + 4 + 3 = i + 2 + 5 by omega, hp, hp] at b
    rw [b, BitVec.xor_assoc, BitVec.xor_comm (c (i + 2)), ← BitVec.xor_assoc, BitVec.xor_self, BitVec.zero_xor] at a
    exact a
  intro i
  have a : c i = c (i + 1) := by
    rw [e2 i, e2 (i + 2), e2 (i + 2 + 2), show i + 2 + 2 + 2 = i + 1 + 5 by omega, hp]
  have b := e1 i
  rw [← a, ← e2 i, BitVec.xor_self] at b
  exact b
theorem sum_bool : ∀ a0 a1 a2 a3 a4 b0 b1 b2 b3 b4 d : Bool, ((a0 ^^ b0) == d && (a1 ^^ b1) == d && (a2 ^^ b2) == d && (a3 ^^ b3) == d && (a4 ^^ b4) == d) = true → ((a0 ^^ a1 ^^ a2 ^^ a3 ^^ a4) ^^ (b0 ^^ b1 ^^ b2 ^^ b3 ^^ b4)) = d := by decide +kernel
theorem sum5 (a0 a1 a2 a3 a4 b0 b1 b2 b3 b4 d : BitVec 64) (h0 : a0 ^^^ b0 = d) (h1 : a1 ^^^ b1 = d) (h2 : a2 ^^^ b2 = d) (h3 : a3 ^^^ b3 = d) (h4 : a4 ^^^ b4 = d) : (a0 ^^^ a1 ^^^ a2 ^^^ a3 ^^^ a4) ^^^ (b0 ^^^ b1 ^^^ b2 ^^^ b3 ^^^ b4) = d := by
  apply rl_ext
  intro j hj
  have c0 := congrArg (fun z => BitVec.getLsbD z j) h0
  have c1 := congrArg (fun z => BitVec.getLsbD z j) h1
  have c2 := congrArg (fun z => BitVec.getLsbD z j) h2
  have c3 := congrArg (fun z => BitVec.getLsbD z j) h3
  have c4 := congrArg (fun z => BitVec.getLsbD z j) h4
  simp only [BitVec.getLsbD_xor] at c0 c1 c2 c3 c4 ⊢
  exact sum_bool _ _ _ _ _ _ _ _ _ _ _ (by rw [c0, c1, c2, c3, c4]; simp)
theorem xor_move {x y u v : BitVec 64} (h : x ^^^ u = y ^^^ v) : x ^^^ y = u ^^^ v := by
  have h2 := congrArg (fun z => y ^^^ z ^^^ u) h
  have e1 : y ^^^ (x ^^^ u) ^^^ u = x ^^^ y := by rw [← BitVec.xor_assoc, BitVec.xor_assoc (y ^^^ x), BitVec.xor_self, BitVec.xor_zero, BitVec.xor_comm]
  have e2 : y ^^^ (y ^^^ v) ^^^ u = u ^^^ v := by rw [← BitVec.xor_assoc, BitVec.xor_self, BitVec.zero_xor, BitVec.xor_comm]
  rw [e1, e2] at h2
  exact h2
theorem xor_zero_eq {x y : BitVec 64} (h : x ^^^ y = 0#64) : x = y := by
  have := congrArg (· ^^^ y) h
  simpa [BitVec.xor_assoc] using this
theorem th_inj {a b : L} (ha : a.length = 25) (hb : b.length = 25) (h : th a = th b) : a = b := by
  have hk : ∀ k, k < 25 → thV a k = thV b k := fun k hk => by
    have := congrArg (fun l => gt l 0#64 k) h
    unfold th at this
    simpa [gt_map 25 _ _ hk] using this
  have e : ∀ x y, x < 5 → y < 5 → gt a 0#64 (x + 5 * y) ^^^ gt b 0#64 (x + 5 * y) = (C a ((x + 4) % 5) ^^^ rl (C a ((x + 1) % 5)) 1) ^^^ (C b ((x + 4) % 5) ^^^ rl (C b ((x + 1) % 5)) 1) := by
    intro x y hx hy
    have := hk (x + 5 * y) (by omega)
    unfold thV at this
    rw [show (x + 5 * y) % 5 = x by omega] at this
    exact xor_move this
  have hc : ∀ x, x < 5 → C a x ^^^ C b x = (C a ((x + 4) % 5) ^^^ rl (C a ((x + 1) % 5)) 1) ^^^ (C b ((x + 4) % 5) ^^^ rl (C b ((x + 1) % 5)) 1) := by
    intro x hx
    exact sum5 _ _ _ _ _ _ _ _ _ _ _ (e x 0 hx (by omega)) (e x 1 hx (by omega)) (e x 2 hx (by omega)) (e x 3 hx (by omega)) (e x 4 hx (by omega))
  have hz := col_zero (fun i => C a (i % 5) ^^^ C b (i % 5)) (fun i => by simp only [Nat.add_mod_right]) (fun i => by
    have := hc ((i + 4) % 5) (by omega)
    rw [show ((i + 4) % 5 + 4) % 5 = (i + 3) % 5 by omega, show ((i + 4) % 5 + 1) % 5 = i % 5 by omega] at this
    rw [this, rl_xor _ _ _ (by omega)]
    generalize C a ((i + 3) % 5) = x1
    generalize C b ((i + 3) % 5) = x2
    generalize rl (C a (i % 5)) 1 = y1
    generalize rl (C b (i % 5)) 1 = y2
    rw [BitVec.xor_assoc x1 y1, ← BitVec.xor_assoc y1, BitVec.xor_comm y1 x2, BitVec.xor_assoc x2, ← BitVec.xor_assoc x1 x2, BitVec.xor_comm (x1 ^^^ x2), BitVec.xor_assoc, BitVec.xor_self, BitVec.xor_zero])
  have hC : ∀ x, x < 5 → C a x = C b x := fun x hx => by
    have := hz x
    simp only [Nat.mod_eq_of_lt hx] at this
    exact xor_zero_eq this
  apply ext_gt 25 ha hb
  intro k hk
  have := e (k % 5) (k / 5) (by omega) (by omega)
  rw [show k % 5 + 5 * (k / 5) = k by omega, hC _ (by omega), hC _ (by omega), BitVec.xor_self] at this
  exact xor_zero_eq this
theorem rd_inj (i : Nat) {a b : L} (ha : a.length = 25) (hb : b.length = 25) (h : rd i a = rd i b) : a = b :=
  th_inj ha hb (rh_inj (th_len _) (th_len _) (ch_inj (rh_len _) (rh_len _) (iota_inj i (ch_len _) (ch_len _) h)))
theorem it_inj {a b : L} (ha : a.length = 25) (hb : b.length = 25) : ∀ n, it rd n a = it rd n b → a = b
  | 0, h => h
  | n + 1, h => it_inj ha hb n (rd_inj n (perR_eq a ha n).2 (perR_eq b hb n).2 h)
/-- **No two states go to one.** -/
theorem perm_inj {a b : L} (ha : a.length = 25) (hb : b.length = 25) (h : permF a = permF b) : a = b := by
  unfold permF at h
  rw [per_eq a ha, per_eq b hb] at h
  exact it_inj ha hb 24 h
theorem perm_len {a : L} (ha : a.length = 25) : (permF a).length = 25 := (per_len ha 24).1
end Go.Proofs.Ytnlcndlfdnogaaa.Pj
