/- The functions of words (four numbers of 64 bits) that the RLP seat's laws come to: what each answers. -/
import Derived.Test.YtkdpphcalekbdaaM
import Derived.Test.YtkdpphcalekbdaaN
import Derived.Test.YtkdpphcalekbdaaSh
import Derived.Outline
import Derived.Laws.CopyOwn
set_option linter.unusedVariables false
set_option linter.unusedSimpArgs false
namespace Go.Proofs.Ytkdpphcalekbdaa.W1
open Go.ChangeShapes Go.WideShapes Go.ChangeAt Go.RowKit
open M

def limb (a b c d : Int) (i : Nat) : Int := if i = 0 then a else if i = 1 then b else if i = 2 then c else d
theorem limb_get (a b c d : Int) (i : Nat) (h : i < 4) : (#[Value.int IntKind.u64 a, Value.int IntKind.u64 b, Value.int IntKind.u64 c, Value.int IntKind.u64 d])[i]? = some (.int .u64 (limb a b c d i)) := by
  match i, h with
  | 0, _ => rfl
  | 1, _ => rfl
  | 2, _ => rfl
  | 3, _ => rfl
theorem cut_m (m x R r : Nat) (hm : m = 2 ^ 64) (h : r < 8) : (x + m * R) / 2 ^ (8 * r) % 256 = x / 2 ^ (8 * r) % 256 := by
  subst hm
  match r, h with
  | 0, _ => simp; omega
  | 1, _ => simp; omega
  | 2, _ => simp; omega
  | 3, _ => simp; omega
  | 4, _ => simp; omega
  | 5, _ => simp; omega
  | 6, _ => simp; omega
  | 7, _ => simp; omega
theorem pow_256 (m k : Nat) (hm : m = 2 ^ 64) : 256 ^ k = m ^ (k / 8) * 2 ^ (8 * (k % 8)) := by
  subst hm
  rw [← Nat.pow_mul, ← Nat.pow_add, show 256 = 2 ^ 8 from rfl, ← Nat.pow_mul]
  congr 1
  omega
theorem step_m (m x R : Nat) (h : x < m) : (x + m * R) / m = R := by
  rw [Nat.add_mul_div_left _ _ (by omega), Nat.div_eq_of_lt h, Nat.zero_add]
theorem nat_byte (m a b c d : Nat) (hm : m = 2 ^ 64) (ha : a < m) (hb : b < m) (hc : c < m) (hd : d < m) (k : Nat) (hk : k < 32) :
    (if k / 8 = 0 then a else if k / 8 = 1 then b else if k / 8 = 2 then c else d) / 2 ^ (8 * (k % 8)) % 256 = (a + m * (b + m * (c + m * d))) / 256 ^ k % 256 := by
  rw [pow_256 m k hm, ← Nat.div_div_eq_div_mul]
  have hr : k % 8 < 8 := by omega
  generalize k % 8 = r at *
  have h4 : k / 8 < 4 := by omega
  generalize k / 8 = q at *
  match q, h4 with
  | 0, _ =>
    rw [if_pos rfl, Nat.pow_zero, Nat.div_one]
    exact (cut_m m a _ r hm hr).symm
  | 1, _ =>
    rw [if_neg (by omega), if_pos rfl, Nat.pow_one, step_m m a _ ha]
    exact (cut_m m b _ r hm hr).symm
  | 2, _ =>
    rw [if_neg (by omega), if_neg (by omega), if_pos rfl, Nat.pow_succ, Nat.pow_one, ← Nat.div_div_eq_div_mul, step_m m a _ ha, step_m m b _ hb]
    exact (cut_m m c _ r hm hr).symm
  | 3, _ =>
    rw [if_neg (by omega), if_neg (by omega), if_neg (by omega), Nat.pow_succ, Nat.pow_succ, Nat.pow_one, ← Nat.div_div_eq_div_mul, ← Nat.div_div_eq_div_mul, step_m m a _ ha, step_m m b _ hb, step_m m c _ hc]
theorem val_nat (a b c d : Nat) : val a b c d = a + 18446744073709551616 * (b + 18446744073709551616 * (c + 18446744073709551616 * d)) := by unfold val; omega
theorem byte_of (a b c d : Int) (ha : U64 a) (hb : U64 b) (hc : U64 c) (hd : U64 d) (k : Nat) (hk : k < 32) :
    limb a b c d (k / 8) / 2 ^ (8 * (k % 8)) % 256 = ((UInt8.ofNat (val a b c d / 256 ^ k)).toNat : Int) := by
  obtain ⟨a, rfl⟩ := Int.eq_ofNat_of_zero_le ha.1
  obtain ⟨b, rfl⟩ := Int.eq_ofNat_of_zero_le hb.1
  obtain ⟨c, rfl⟩ := Int.eq_ofNat_of_zero_le hc.1
  obtain ⟨d, rfl⟩ := Int.eq_ofNat_of_zero_le hd.1
  have h := nat_byte 18446744073709551616 a b c d (by decide) (by have := ha.2; omega) (by have := hb.2; omega) (by have := hc.2; omega) (by have := hd.2; omega) k hk
  rw [toNat_ofNat_mod, val_nat, ← h]
  clear h ha hb hc hd
  unfold limb
  have cast : ∀ x r : Nat, ((x : Int) / 2 ^ r % 256) = ((x / 2 ^ r % 256 : Nat) : Int) := fun x r => by rw [Int.natCast_emod, Int.natCast_ediv, Int.natCast_pow]; rfl
  (repeat' split) <;> exact cast _ _

/-- The bytes of an array, those from number k on not yet laid. -/
def arrB (V k : Nat) : Array Value := ((List.range 32).map fun j => Value.int .u8 (if 31 - j < k then ((UInt8.ofNat (V / 256 ^ (31 - j))).toNat : Int) else 0)).toArray
theorem arrB_get (V k j : Nat) (h : j < 32) : (arrB V k)[j]? = some (.int .u8 (if 31 - j < k then ((UInt8.ofNat (V / 256 ^ (31 - j))).toNat : Int) else 0)) := by simp [arrB, h]
theorem arrB_step (V k : Nat) (h : k < 32) : (arrB V k).setIfInBounds (31 - k) (.int .u8 ((UInt8.ofNat (V / 256 ^ k)).toNat : Int)) = arrB V (k + 1) := by
  apply Array.ext_getElem?
  intro i
  by_cases hi : i < 32
  · rw [Array.getElem?_setIfInBounds, arrB_get _ _ _ hi, arrB_get _ _ _ hi]
    have hsz : (arrB V k).size = 32 := by simp [arrB]
    by_cases e : 31 - k = i
    · subst e
      rw [if_pos rfl, if_pos (by rw [hsz]; omega), if_pos (by omega), show 31 - (31 - k) = k from by omega]
    · rw [if_neg e]
      by_cases h1 : 31 - i < k
      · rw [if_pos h1, if_pos (by omega)]
      · rw [if_neg h1, if_neg (by omega)]
  · have hsz : ∀ q, (arrB V q).size = 32 := by intro q; simp [arrB]
    rw [Array.getElem?_eq_none (by rw [Array.size_setIfInBounds, hsz]; omega), Array.getElem?_eq_none (by rw [hsz]; omega)]
theorem arrB_end (V : Nat) : arrB V 32 = (nums (beK 32 V)).toArray := by
  unfold arrB nums beK
  rw [List.map_map]
  apply congrArg
  apply List.map_congr_left
  intro j hj
  have hj : j < 32 := by simpa using hj
  simp only [Function.comp, show 32 - 1 - j = 31 - j from by omega]
  rw [if_pos (by omega)]
theorem arrB_start (V : Nat) : arrB V 0 = (List.replicate 32 (Value.int .u8 0)).toArray := by
  unfold arrB
  rfl

theorem info116 : (Try.prog.info? 116).map (·.size) = some 32 := by kernel_rfl
set_option maxHeartbeats 400000 in
theorem bytes_any (a b c d : Int) (ha : U64 a) (hb : U64 b) (hc : U64 c) (hd : U64 d) (w : World) :
    Calls Try.prog 70 #[.agg #[.int .u64 a, .int .u64 b, .int .u64 c, .int .u64 d]] w fun e w' => e = .returned (.agg (nums (beK 32 (val a b c d))).toArray) ∧ Below w.heap.size w w' := by
  have hbyte := fun k hk => byte_of a b c d ha hb hc hd k hk
  have hz := arrB_start (val a b c d)
  generalize val a b c d = V at *
  go_enter Try.func70, Try.ntmps70
  go_wp2_with fail
  go_loopw [5] (fun i wr => ∃ k : Nat, k ≤ 32 ∧ i = .int .i64 k ∧ wr = ((w.alloc (.cells #[.int .u64 a, .int .u64 b, .int .u64 c, .int .u64 d] 57)).alloc (.cells (arrB V 0) 116)).alloc (.cells (arrB V k) 116)) (fun i _ => 32 - (intOf i).toNat)
  case atStart => exact ⟨0, by omega, rfl, by rw [hz]; rfl⟩
  case round =>
    clear hz
    obtain ⟨k, hk, rfl, rfl⟩ := hrel
    by_cases hlt : k < 32
    · have hl' := limb_get a b c d (k / 8) (by omega)
      have hs := arrB_get V k (31 - k) (by omega)
      have Hst := Lib.hid (arrB_step V k hlt)
      have Hb := Lib.hid (hbyte k hlt)
      clear hbyte
      go_wp2
      go_roundw
      case rel => exact ⟨k + 1, by omega, by go_num, by rw [Hb.out, Hst.out]⟩
      case measure => simp [intOf]; omega
    · clear hbyte
      obtain rfl : k = 32 := by omega
      have hg3 : (((w.alloc (.cells #[.int .u64 a, .int .u64 b, .int .u64 c, .int .u64 d] 57)).alloc (.cells (arrB V 0) 116)).alloc (.cells (arrB V 32) 116)).heap[w.heap.size + 1 + 1]? = some (.cells (arrB V 32) 116 (0, 0)) := by
        have := heap_alloc_new ((w.alloc (.cells #[.int .u64 a, .int .u64 b, .int .u64 c, .int .u64 d] 57)).alloc (.cells (arrB V 0) 116)) (.cells (arrB V 32) 116)
        simpa only [World.size_alloc] using this
      have hg2 : (((w.alloc (.cells #[.int .u64 a, .int .u64 b, .int .u64 c, .int .u64 d] 57)).alloc (.cells (arrB V 0) 116)).alloc (.cells (arrB V 32) 116)).heap[w.heap.size + 1]? = some (.cells (arrB V 0) 116 (0, 0)) := by
        have := heap_alloc_new (w.alloc (.cells #[.int .u64 a, .int .u64 b, .int .u64 c, .int .u64 d] 57)) (.cells (arrB V 0) 116)
        rw [Below.heap_alloc _ _ _ (by simp)]
        simpa only [World.size_alloc] using this
      have hB : Below w.heap.size w (((w.alloc (.cells #[.int .u64 a, .int .u64 b, .int .u64 c, .int .u64 d] 57)).alloc (.cells (arrB V 0) 116)).alloc (.cells (arrB V 32) 116)) := (((Below.refl _ _).alloc (Nat.le_refl _) _).alloc (by simp) _).alloc (by simp; omega) _
      generalize ((w.alloc (.cells #[.int .u64 a, .int .u64 b, .int .u64 c, .int .u64 d] 57)).alloc (.cells (arrB V 0) 116)).alloc (.cells (arrB V 32) 116) = W at *
      have hs0 : (arrB V 0).size = 32 := by simp [arrB]
      have hs : (arrB V 32).size = 32 := by simp [arrB]
      have hi : (Try.prog.info? 116).map (·.size) = some (arrB V 32).size := by rw [hs]; exact info116
      have h1 : (arrB V 32).all (·.oneCell') = true := by simp [arrB, Value.oneCell']
      have Hg2 := Lib.hid hg2
      have Hg3 := Lib.hid hg3
      have He := Lib.hid (arrB_end V)
      clear hg2 hg3
      go_wp2_with (first | (refine wpList_load_row rfl 116 (.tmp 3) rfl (w.heap.size + 1 + 1) rfl 116 (arrB V 32) (0, 0) _ Hg3.out Try.underlying116 rfl hi ?_) | (refine wpList_store_row rfl 116 (.tmp 2) (.tmp 21) rfl (w.heap.size + 1) (arrB V 32) rfl rfl 116 (arrB V 0) Hg2.out hi (hs0.trans hs.symm) h1 ?_))
      refine bodyPost_ret (results_cell_row (P := Try.prog) rfl _ _ (w.heap.size + 1) 116 (arrB V 32) (0, 0) _ rfl (setRow_heap W _ _ _ _ _ Hg2.out) Try.underlying116 rfl hi) rfl ⟨by rw [He.out], ?_⟩
      exact below_setRow hB (by omega) _
theorem of_any (n : Int) (w : World) : Calls Try.prog 69 #[.int .u64 n] w fun e w' => e = .returned (.agg #[.int .u64 n, .int .u64 0, .int .u64 0, .int .u64 0]) ∧ Below w.heap.size w w' := by
  go_enter Try.func69, Try.ntmps69
  go_wp2
  go_returns
  exact ⟨rfl, (Below.refl _ _).alloc (Nat.le_refl _) _⟩
theorem refOf_any (n : Int) (w : World) : Calls Try.prog 64 #[.int .u64 n] w fun e w' => e = .returned (.agg #[.int .u64 n, .int .u64 0, .int .u64 0, .int .u64 0]) ∧ Below w.heap.size w w' := by
  go_enter Try.func64, Try.ntmps64
  go_wp2
  go_returns
  exact ⟨rfl, (Below.refl _ _).alloc (Nat.le_refl _) _⟩
theorem small_any (a b c d : Int) (hb : b = 0) (hc : c = 0) (hd : d = 0) (w : World) : Calls Try.prog 68 #[.agg #[.int .u64 a, .int .u64 b, .int .u64 c, .int .u64 d]] w fun e w' => e = .returned (.tuple #[.int .u64 a, .bool true]) ∧ Below w.heap.size w w' := by
  subst hb hc hd
  have h0 : (bits BinOp.or IntKind.u64 (bits BinOp.or IntKind.u64 0 0) 0 != 0) = false := by decide
  go_enter Try.func68, Try.ntmps68
  go_wp2
  go_returns
  exact ⟨rfl, (Below.refl _ _).alloc (Nat.le_refl _) _⟩
theorem bitLen_spec (x : Nat) (h : x < 18446744073709551616) : (x = 0 → Lib.bitLen x = 0) ∧ (x ≠ 0 → 1 ≤ Lib.bitLen x ∧ 2 ^ (Lib.bitLen x - 1) ≤ x ∧ x < 2 ^ Lib.bitLen x ∧ Lib.bitLen x ≤ 64) := by
  constructor
  · rintro rfl; exact Lib.bitLenAux_zero 64
  · intro h0
    have := Lib.bitLenAux_bounds 64 x h h0
    refine ⟨this.1, this.2.1, this.2.2, ?_⟩
    have h2 : 2 ^ (Lib.bitLen x - 1) < 2 ^ 64 := Nat.lt_of_le_of_lt this.2.1 h
    have := (Nat.pow_lt_pow_iff_right (by omega : 1 < 2)).1 h2
    omega
theorem top_bits (x R q : Nat) (hx : x ≠ 0) (h : x < 18446744073709551616) (hR : R < 2 ^ (64 * q)) :
    (64 * q + Lib.bitLen x + 7) / 8 = (digits (R + 2 ^ (64 * q) * x)).length := by
  obtain ⟨h1, h2, h3, h4⟩ := (bitLen_spec x h).2 hx
  generalize Lib.bitLen x = L at *
  have e : 2 ^ (64 * q + L) = 2 ^ (64 * q) * 2 ^ L := Nat.pow_add ..
  have e1 : 2 ^ (64 * q + L - 1) = 2 ^ (64 * q) * 2 ^ (L - 1) := by rw [← Nat.pow_add]; congr 1; omega
  have hp : 0 < 2 ^ (64 * q) := Nat.pow_pos (by omega)
  generalize 2 ^ (64 * q) = Q at *
  refine bitLen_digits _ _ ?_ (fun _ => ⟨?_, by omega⟩) (fun h0 => ?_)
  · rw [e]
    have : Q * (x + 1) ≤ Q * 2 ^ L := Nat.mul_le_mul_left _ h3
    rw [Nat.mul_add, Nat.mul_one] at this
    omega
  · rw [e1]
    have : Q * 2 ^ (L - 1) ≤ Q * x := Nat.mul_le_mul_left _ h2
    omega
  · have : Q * 1 ≤ Q * x := Nat.mul_le_mul_left _ (by omega)
    omega
theorem val_top (a b c d : Int) (ha : U64 a) (hb : U64 b) (hc : U64 c) (hd : U64 d) :
    (d ≠ 0 → (64 * 3 + Lib.bitLen d.toNat + 7) / 8 = (digits (val a b c d)).length) ∧
    (d = 0 → c ≠ 0 → (64 * 2 + Lib.bitLen c.toNat + 7) / 8 = (digits (val a b c d)).length) ∧
    (d = 0 → c = 0 → b ≠ 0 → (64 * 1 + Lib.bitLen b.toNat + 7) / 8 = (digits (val a b c d)).length) ∧
    (d = 0 → c = 0 → b = 0 → a ≠ 0 → (64 * 0 + Lib.bitLen a.toNat + 7) / 8 = (digits (val a b c d)).length) ∧
    (d = 0 → c = 0 → b = 0 → a = 0 → (0 + 7) / 8 = (digits (val a b c d)).length) := by
  obtain ⟨a, rfl⟩ := Int.eq_ofNat_of_zero_le ha.1
  obtain ⟨b, rfl⟩ := Int.eq_ofNat_of_zero_le hb.1
  obtain ⟨c, rfl⟩ := Int.eq_ofNat_of_zero_le hc.1
  obtain ⟨d, rfl⟩ := Int.eq_ofNat_of_zero_le hd.1
  have h1 := ha.2; have h2 := hb.2; have h3 := hc.2; have h4 := hd.2
  rw [val_nat]
  simp only [Int.toNat_natCast]
  have e1 : (2 : Nat) ^ (64 * 1) = 18446744073709551616 := by decide
  have e2 : (2 : Nat) ^ (64 * 2) = 18446744073709551616 * 18446744073709551616 := by decide
  have e3 : (2 : Nat) ^ (64 * 3) = 18446744073709551616 * 18446744073709551616 * 18446744073709551616 := by decide
  have e0 : (2 : Nat) ^ (64 * 0) = 1 := by decide
  refine ⟨fun h => ?_, fun g1 h => ?_, fun g1 g2 h => ?_, fun g1 g2 g3 h => ?_, fun g1 g2 g3 g4 => ?_⟩
  · have := top_bits d (a + 18446744073709551616 * (b + 18446744073709551616 * c)) 3 (by omega) (by omega) (by rw [e3]; omega)
    rw [this, e3]; congr 2; omega
  · have := top_bits c (a + 18446744073709551616 * b) 2 (by omega) (by omega) (by rw [e2]; omega)
    rw [this, e2]; congr 2; omega
  · have := top_bits b a 1 (by omega) (by omega) (by rw [e1]; omega)
    rw [this, e1]; congr 2; omega
  · have := top_bits a 0 0 (by omega) (by omega) (by rw [e0]; omega)
    rw [this, e0]; congr 2; omega
  · have e : a + 18446744073709551616 * (b + 18446744073709551616 * (c + 18446744073709551616 * d)) = 0 := by omega
    rw [e, digits_zero]; rfl
theorem len64_any (x : Int) (h : U64 x) (w : World) : Calls Try.prog 74 #[.int .u64 x] w fun e w' => ∃ L : Nat, L ≤ 64 ∧ Hid (L = Lib.bitLen x.toNat) ∧ e = .returned (.int .i64 L) ∧ w = w' := by
  refine (Try.bits_Len64 x w h.1 (by have := h.2; omega)).mono ?_
  rintro e w' ⟨rfl, rfl⟩
  refine ⟨_, ?_, rfl, rfl, rfl⟩
  by_cases h0 : x.toNat = 0
  · rw [(bitLen_spec _ (by omega)).1 h0]; omega
  · exact ((bitLen_spec x.toNat (by have := h.2; have := h.1; omega)).2 h0).2.2.2
set_option maxHeartbeats 1000000 in
theorem bits_any (a b c d : Int) (ha : U64 a) (hb : U64 b) (hc : U64 c) (hd : U64 d) (w : World) :
    Calls Try.prog 71 #[.agg #[.int .u64 a, .int .u64 b, .int .u64 c, .int .u64 d]] w fun e w' => ∃ L : Nat, L ≤ 256 ∧ (L + 7) / 8 = (digits (val a b c d)).length ∧ e = .returned (.int .i64 L) ∧ Below w.heap.size w w' := by
  have hB : ∀ o, Below w.heap.size w (w.alloc o) := fun o => (Below.refl _ _).alloc (Nat.le_refl _) _
  go_enter Try.func71, Try.ntmps71
  go_wp2_with fail
  refine wp_loop_rounds 5 ?_
  repeat any_goals (rw [rounds_succ]; go_wp2_with (go_at_call 74; refine (len64_any _ (by assumption) _).mono ?_; rintro e w' ⟨L, hL, HL, rfl, rfl⟩))
  all_goals go_ret
  · have h0 : d ≠ 0 := by have h : (d != 0) = true := by assumption
                          simpa using h
    exact ⟨64 * 3 + L, by omega, by rw [HL.out]; exact (val_top a b c d ha hb hc hd).1 h0, by go_num, hB _⟩
  · have h0 : d = 0 := by have h : (d != 0) = false := by assumption
                          simpa using h
    have h1 : c ≠ 0 := by have h : (c != 0) = true := by assumption
                          simpa using h
    exact ⟨64 * 2 + L, by omega, by rw [HL.out]; exact (val_top a b c d ha hb hc hd).2.1 h0 h1, by go_num, hB _⟩
  · have h0 : d = 0 := by have h : (d != 0) = false := by assumption
                          simpa using h
    have h1 : c = 0 := by have h : (c != 0) = false := by assumption
                          simpa using h
    have h2 : b ≠ 0 := by have h : (b != 0) = true := by assumption
                          simpa using h
    exact ⟨64 * 1 + L, by omega, by rw [HL.out]; exact (val_top a b c d ha hb hc hd).2.2.1 h0 h1 h2, by go_num, hB _⟩
  · have h0 : d = 0 := by have h : (d != 0) = false := by assumption
                          simpa using h
    have h1 : c = 0 := by have h : (c != 0) = false := by assumption
                          simpa using h
    have h2 : b = 0 := by have h : (b != 0) = false := by assumption
                          simpa using h
    have h3 : a ≠ 0 := by have h : (a != 0) = true := by assumption
                          simpa using h
    exact ⟨64 * 0 + L, by omega, by rw [HL.out]; exact (val_top a b c d ha hb hc hd).2.2.2.1 h0 h1 h2 h3, by simp, hB _⟩
  · have h0 : d = 0 := by have h : (d != 0) = false := by assumption
                          simpa using h
    have h1 : c = 0 := by have h : (c != 0) = false := by assumption
                          simpa using h
    have h2 : b = 0 := by have h : (b != 0) = false := by assumption
                          simpa using h
    have h3 : a = 0 := by have h : (a != 0) = false := by assumption
                          simpa using h
    exact ⟨0, by omega, (val_top a b c d ha hb hc hd).2.2.2.2 h0 h1 h2 h3, rfl, hB _⟩
theorem info5 : (Try.prog.info? 5).map (fun i => (i.zero, i.size, i.bytes)) = some (some (.int .u8 0), 1, 1) := by kernel_rfl
theorem arrayLen116 : Try.prog.arrayLen 116 = 32 := by kernel_rfl
theorem elem116 : Try.prog.elem 116 = 5 := by kernel_rfl
/-- b[k:] of an array of 32 bytes. -/
theorem cut116 (g k : Nat) (hk : k ≤ 32) : ∃ A : Option Addr, (∀ W : World, (Instr.sliceAt 116 (.pointer (some ⟨g, 0, none⟩)) (some (.int .i64 (k : Int))) none none).run Try.prog W = .ok (.slice A (32 - k) (32 - k)) W) ∧
    ∀ (w : World) (lo hi : Nat) (l : List Value) (t : TypeId) (fr : Nat × Nat), w.heap[g]? = some (.cells l.toArray t fr) → l.length = 32 → lo ≤ g → g < hi → Rd w lo hi 1 A (32 - k) (l.drop k) := by
  refine ⟨some (if 32 = k then ⟨g, 0, none⟩ else (⟨g, 0, none⟩ : Addr).add (k * 1)), fun W => ?_, fun w lo hi l t fr hg hl h1 h2 => ⟨by simp [hl], fun hn => ?_⟩⟩
  · rw [run_sliceAt_array_l W 116 ⟨g, 0, none⟩ (by rw [arrayLen116, elem116]; exact Try.underlying116) .i64 (k : Int) (by omega) (by rw [arrayLen116]; omega), elem116, arrayLen116]
    simp [Try.sizeOf5, slicedAt, Result.andThen]
  · rw [if_neg (by omega)]
    by_cases h0 : k = 0
    · subst h0
      refine ⟨g, 0, by simp [Addr.add], h1, h2, fun j u hu => ?_⟩
      rw [cell_of_row w g _ _ _ _ hg]; simpa using hu
    · refine ⟨g, k, by simp [Addr.add, h0], h1, h2, fun j u hu => ?_⟩
      rw [cell_of_row w g _ _ _ _ hg]
      simpa using hu
set_option maxRecDepth 100000 in
set_option maxHeartbeats 1000000 in
theorem least_any (a b c d : Int) (ha : U64 a) (hb : U64 b) (hc : U64 c) (hd : U64 d) (w : World) :
    Calls Try.prog 57 #[.agg #[.int .u64 a, .int .u64 b, .int .u64 c, .int .u64 d]] w fun e w' => ∃ v, e = .returned v ∧ Own w' w.heap.size v (digits (val a b c d)) ∧ Below w.heap.size w w' := by
  have hst := store_new (P := Try.prog) 116 32 (nums (beK 32 (val a b c d))) info116 (by simp [beK_length]) (nums_one _)
  have hV : val a b c d < 256 ^ 32 := by have := ha.2; have := hb.2; have := hc.2; have := hd.2; unfold val; omega
  have HV := Lib.hid hV
  clear hV
  go_enter Try.func57, Try.ntmps57
  go_wp2_with fail
  refine (bytes_any a b c d ha hb hc hd _).mono ?_
  rintro e w1 ⟨rfl, hb1⟩
  obtain ⟨hc1, hf1⟩ := bcell hb1
  have hz1 : w.heap.size < w1.heap.size := by have := hb1.size; simp at this; omega
  go_wp2_with fail
  refine (bits_any a b c d ha hb hc hd _).mono ?_
  rintro e w2 ⟨L, hL, HL0, rfl, hb2⟩
  have HL := Lib.hid HL0
  clear HL0
  have e1 : (32 - ((L : Int) + 7) / 8) = ((32 - (L + 7) / 8 : Nat) : Int) := by omega
  obtain ⟨A, hA, hRd0⟩ := cut116 w1.heap.size (32 - (L + 7) / 8) (by omega)
  have hRd := hRd0 w2 w.heap.size w2.heap.size (nums (beK 32 (val a b c d))) 116 (0, 0) ((hb2.block _ (by simp)).trans (heap_alloc_new w1 _)) (by simp [beK_length]) (by omega) (by have := hb2.size; simp at this; omega)
  clear hRd0
  rw [show 32 - (32 - (L + 7) / 8) = (L + 7) / 8 from by omega, HL.out] at hRd hA
  have hdr : (nums (beK 32 (val a b c d))).drop (32 - (digits (val a b c d)).length) = nums (digits (val a b c d)) := by rw [nums, nums, ← List.map_drop, beK_drop HV.out]
  rw [hdr] at hRd
  have HRd := Lib.hid hRd
  have hlen := digits_length_le HV.out
  clear hRd hdr hc1 hf1
  rw [HL.out] at e1
  go_wp2_with (first | (at_builtin; refine wp_append rfl (.const (.slice none 0 0)) (.tmp 13) 23 5 (.int .u8 0) 1 1 rfl Try.underlying23 info5 rfl (by omega) w.heap.size w.heap.size w2.heap.size (.slice none 0 0) 0 [] A (digits (val a b c d)).length (digits (val a b c d)).length (nums (digits (val a b c d))) rfl rfl (World.ownsRow_nil _ _ _ _) HRd.out (nums_one _) (by simp only [maxLen]; omega) (by omega) (by have := hb2.size; simp at this; omega) ?_; intro v' w' hown hgrow _))
  go_ret
  refine ⟨_, rfl, by simpa [Own] using hown, ?_⟩
  have hb := (((Below.refl w.heap.size w).alloc (Nat.le_refl _) _).trans (hb1.mono (by simp))).trans (((Below.refl w.heap.size w1).alloc (by omega) _).trans (hb2.mono (by simp; omega)))
  exact hb.grown hgrow hb.size (by simp [Value.ownBlock])
end Go.Proofs.Ytkdpphcalekbdaa.W1
