/- The reference's functions of words: what each answers. -/
import Derived.Test.YtkdpphcalekbdaaW2
set_option linter.unusedVariables false
set_option linter.unusedSimpArgs false
namespace Go.Proofs.Ytkdpphcalekbdaa.W1
open Go.ChangeShapes Go.WideShapes Go.ChangeAt Go.RowKit
open M
theorem limb_u64 (a b c d : Int) (ha : U64 a) (hb : U64 b) (hc : U64 c) (hd : U64 d) (i : Nat) : U64 (limb a b c d i) := by
  unfold limb; split; exact ha; split; exact hb; split; exact hc; exact hd
theorem byte_of' (a b c d : Int) (ha : U64 a) (hb : U64 b) (hc : U64 c) (hd : U64 d) (k : Nat) (hk : k < 32) :
    (limb a b c d (k / 8) / 2 ^ (8 * (k % 8))).tmod 256 % 256 = ((UInt8.ofNat (val a b c d / 256 ^ k)).toNat : Int) := by
  have h0 : (0 : Int) ≤ limb a b c d (k / 8) / 2 ^ (8 * (k % 8)) := Int.ediv_nonneg (limb_u64 a b c d ha hb hc hd _).1 (Int.le_of_lt (Int.pow_pos (by decide)))
  rw [Int.tmod_eq_emod_of_nonneg h0, Int.emod_emod_of_dvd _ (Int.dvd_refl _)]
  exact byte_of a b c d ha hb hc hd k hk
set_option maxHeartbeats 1000000 in
theorem refBytes_any (a b c d : Int) (ha : U64 a) (hb : U64 b) (hc : U64 c) (hd : U64 d) (w : World) :
    Calls Try.prog 72 #[.agg #[.int .u64 a, .int .u64 b, .int .u64 c, .int .u64 d]] w fun e w' => e = .returned (.agg (nums (beK 32 (val a b c d))).toArray) ∧ Below w.heap.size w w' := by
  have hbyte := fun k hk => byte_of' a b c d ha hb hc hd k hk
  have hz := arrB_start (val a b c d)
  generalize val a b c d = V at *
  go_enter Try.func72, Try.ntmps72
  go_wp2_with fail
  go_loopw [4] (fun i wr => ∃ k : Nat, k ≤ 32 ∧ i = .int .i64 k ∧ wr = ((w.alloc (.cells #[.int .u64 a, .int .u64 b, .int .u64 c, .int .u64 d] 56)).alloc (.cells (arrB V 0) 116)).alloc (.cells (arrB V k) 116)) (fun i _ => 32 - (intOf i).toNat)
  case atStart => exact ⟨0, by omega, rfl, by rw [hz]; rfl⟩
  case round =>
    clear hz
    obtain ⟨k, hk, rfl, rfl⟩ := hrel
    by_cases hlt : k < 32
    · have hl' := limb_get a b c d (k / 8) (by omega)
      have hs := arrB_get V k (31 - k) (by omega)
      have Hst := Lib.hid (arrB_step V k hlt)
      have Hb := Lib.hid (hbyte k hlt)
      clear hbyte
      go_wp2
      go_roundw
      case rel => exact ⟨k + 1, by omega, by go_num, by rw [← Hst.out, ← Hb.out]⟩
      case measure => simp [intOf]; omega
    · clear hbyte
      obtain rfl : k = 32 := by omega
      have hg3 : (((w.alloc (.cells #[.int .u64 a, .int .u64 b, .int .u64 c, .int .u64 d] 56)).alloc (.cells (arrB V 0) 116)).alloc (.cells (arrB V 32) 116)).heap[w.heap.size + 1 + 1]? = some (.cells (arrB V 32) 116 (0, 0)) := by
        have := heap_alloc_new ((w.alloc (.cells #[.int .u64 a, .int .u64 b, .int .u64 c, .int .u64 d] 56)).alloc (.cells (arrB V 0) 116)) (.cells (arrB V 32) 116)
        simpa only [World.size_alloc] using this
      have hg2 : (((w.alloc (.cells #[.int .u64 a, .int .u64 b, .int .u64 c, .int .u64 d] 56)).alloc (.cells (arrB V 0) 116)).alloc (.cells (arrB V 32) 116)).heap[w.heap.size + 1]? = some (.cells (arrB V 0) 116 (0, 0)) := by
        have := heap_alloc_new (w.alloc (.cells #[.int .u64 a, .int .u64 b, .int .u64 c, .int .u64 d] 56)) (.cells (arrB V 0) 116)
        rw [Below.heap_alloc _ _ _ (by simp)]
        simpa only [World.size_alloc] using this
      have hB : Below w.heap.size w (((w.alloc (.cells #[.int .u64 a, .int .u64 b, .int .u64 c, .int .u64 d] 56)).alloc (.cells (arrB V 0) 116)).alloc (.cells (arrB V 32) 116)) := (((Below.refl _ _).alloc (Nat.le_refl _) _).alloc (by simp) _).alloc (by simp; omega) _
      generalize ((w.alloc (.cells #[.int .u64 a, .int .u64 b, .int .u64 c, .int .u64 d] 56)).alloc (.cells (arrB V 0) 116)).alloc (.cells (arrB V 32) 116) = W at *
      have hs0 : (arrB V 0).size = 32 := by simp [arrB]
      have hs : (arrB V 32).size = 32 := by simp [arrB]
      have hi : (Try.prog.info? 116).map (·.size) = some (arrB V 32).size := by rw [hs]; exact info116
      have h1 : (arrB V 32).all (·.oneCell') = true := by simp [arrB, Value.oneCell']
      have Hg2 := Lib.hid hg2
      have Hg3 := Lib.hid hg3
      have He := Lib.hid (arrB_end V)
      clear hg2 hg3
      go_wp2_with (first | (refine wpList_load_row rfl 116 (.tmp 3) rfl (w.heap.size + 1 + 1) rfl 116 (arrB V 32) (0, 0) _ Hg3.out Try.underlying116 rfl hi ?_) | (refine wpList_store_row rfl 116 (.tmp 2) (.tmp 23) rfl (w.heap.size + 1) (arrB V 32) rfl rfl 116 (arrB V 0) Hg2.out hi (hs0.trans hs.symm) h1 ?_))
      refine bodyPost_ret (results_cell_row (P := Try.prog) rfl _ _ (w.heap.size + 1) 116 (arrB V 32) (0, 0) _ rfl (setRow_heap W _ _ _ _ _ Hg2.out) Try.underlying116 rfl hi) rfl ⟨by rw [He.out], ?_⟩
      exact below_setRow hB (by omega) _
theorem nums_beK_get (V j : Nat) (h : j < 32) : (nums (beK 32 V))[j]? = some (.int .u8 (((beK 32 V)[j]'(by rw [beK_length]; exact h)).toNat : Int)) := by
  exact nums_get _ _ _
set_option maxRecDepth 100000 in
set_option maxHeartbeats 1000000 in
theorem refLeast_any (a b c d : Int) (ha : U64 a) (hb : U64 b) (hc : U64 c) (hd : U64 d) (w : World) :
    Calls Try.prog 63 #[.agg #[.int .u64 a, .int .u64 b, .int .u64 c, .int .u64 d]] w fun e w' => ∃ v, e = .returned v ∧ Own w' w.heap.size v (digits (val a b c d)) ∧ Below w.heap.size w w' := by
  have hcall := refBytes_any a b c d ha hb hc hd
  have hV : val a b c d < 256 ^ 32 := by have := ha.2; have := hb.2; have := hc.2; have := hd.2; unfold val; omega
  generalize val a b c d = V at *
  have hst := store_new (P := Try.prog) 116 32 (nums (beK 32 V)) info116 (by simp [beK_length]) (nums_one _)
  have HV := Lib.hid hV
  have Hcall := Lib.hid hcall
  clear hV hcall
  go_enter Try.func63, Try.ntmps63
  go_wp2_with fail
  refine (Hcall.out _).mono ?_
  rintro e w1 ⟨rfl, hb1⟩
  have hz1 : w.heap.size < w1.heap.size := by have := hb1.size; simp at this; omega
  have hlen := digits_length_le HV.out
  go_wp2_with fail
  clear hst
  go_loop [4] (fun i => ∃ k : Nat, k ≤ 32 - (digits V).length ∧ i = .int .i64 k) (fun i => 32 - (intOf i).toNat)
  case atStart => exact ⟨0, by omega, rfl⟩
  case round =>
    obtain ⟨k, hk, rfl⟩ := hrel
    by_cases hlt : k < 32 - (digits V).length
    · have hget := nums_beK_get V k (by omega)
      rw [(beK_lead HV.out k (by omega)).1 hlt] at hget
      generalize nums (beK 32 V) = X at *
      go_wp2
      go_round
      case rel => exact ⟨k + 1, by omega, by go_num⟩
      case measure => simp [intOf]; omega
    · obtain rfl : k = 32 - (digits V).length := by omega
      obtain ⟨A, hA, hRd0⟩ := cut116 w1.heap.size (32 - (digits V).length) (by omega)
      have hRd := hRd0 (w1.alloc (.cells (nums (beK 32 V)).toArray 116)) w.heap.size (w1.heap.size + 1) (nums (beK 32 V)) 116 (0, 0) (heap_alloc_new w1 _) (by simp [beK_length]) (by omega) (by omega)
      clear hRd0
      rw [show 32 - (32 - (digits V).length) = (digits V).length from by omega] at hRd hA
      have hdr : (nums (beK 32 V)).drop (32 - (digits V).length) = nums (digits V) := by rw [nums, nums, ← List.map_drop, beK_drop HV.out]
      rw [hdr] at hRd
      have HRd := Lib.hid (hRd.keep (w' := (w1.alloc (.cells (nums (beK 32 V)).toArray 116)).alloc (.cells #[] 5)) (fun k h1 h2 => Below.heap_alloc _ _ _ (by simp; omega)))
      clear hRd hdr
      have hfin : ∀ v' w', w'.ownsRow w.heap.size 5 1 v' (digits V).length (nums (digits V)) → ((w1.alloc (.cells (nums (beK 32 V)).toArray 116)).alloc (.cells #[] 5)).grownBy w' (.some (w1.heap.size + 1)) → Own w' w.heap.size v' (digits V) ∧ Below w.heap.size w w' := by
        intro v' w' hown hgrow
        refine ⟨hown, ?_⟩
        have hb := ((((Below.refl w.heap.size w).alloc (Nat.le_refl _) _).trans (hb1.mono (by simp))).alloc (by omega) (.cells (nums (beK 32 V)).toArray 116)).alloc (by simp; omega) (.cells #[] 5)
        exact hb.grown hgrow hb.size (by intro k hk; cases hk; omega)
      have Hfin := Lib.hid hfin
      clear hfin
      have hown0 : ((w1.alloc (.cells (nums (beK 32 V)).toArray 116)).alloc (.cells #[] 5)).ownsRow w.heap.size 5 1 (.slice (some ⟨w1.heap.size + 1, 0, none⟩) 0 0) 0 [] := by
        have := World.ownsRow_lit (base := w.heap.size) (e := 5) (size := 1) (w1.alloc (.cells (nums (beK 32 V)).toArray 116)) #[] 0 (by simp; omega) (by decide) (by simp)
        simpa using this
      have Hown0 := Lib.hid hown0
      clear hown0
      have hq2 : 32 - (digits V).length ≤ 32 := by omega
      have hlead := beK_lead HV.out (32 - (digits V).length)
      have Hq3 := Lib.hid (show 32 - (digits V).length + (digits V).length = 32 from by omega)
      generalize hq : 32 - (digits V).length = q at *
      clear hq
      by_cases h32 : q < 32
      · have hget := nums_beK_get V q h32
        have hne : ((((beK 32 V)[q]'(by rw [beK_length]; exact h32)).toNat : Int) == 0) = false := by
          have := (hlead h32).2 rfl
          rw [beq_eq_false_iff_ne]
          intro e
          apply this
          apply UInt8.toNat_inj.1
          have : (0 : UInt8).toNat = 0 := rfl
          omega
        clear hlead
        generalize ((((beK 32 V)[q]'(by rw [beK_length]; exact h32)).toNat : Int)) = y at *
        generalize nums (beK 32 V) = X at *
        go_wp2_with (first | (at_builtin; refine wp_append rfl (.tmp 17) (.tmp 19) 23 5 (.int .u8 0) 1 1 rfl Try.underlying23 info5 rfl (by omega) w.heap.size w.heap.size (w1.heap.size + 1) _ 0 [] A (digits V).length (digits V).length (nums (digits V)) rfl rfl Hown0.out HRd.out (nums_one _) (by simp only [maxLen]; omega) (by omega) (by simp; omega) ?_; intro v' w' hown hgrow _))
        go_ret
        exact ⟨_, rfl, Hfin.out _ _ (by simpa using hown) hgrow⟩
      · obtain rfl : q = 32 := by omega
        have hnil : digits V = [] := List.eq_nil_of_length_eq_zero (by have := Hq3.out; omega)
        have hB := (((((Below.refl w.heap.size w).alloc (Nat.le_refl _) _).trans (hb1.mono (by simp))).alloc (by omega) (.cells (nums (beK 32 V)).toArray 116)).alloc (by simp; omega) (.cells #[] 5))
        clear hlead
        generalize nums (beK 32 V) = X at *
        go_wp2
        go_ret
        exact ⟨_, rfl, Hown0.out, hB⟩
end Go.Proofs.Ytkdpphcalekbdaa.W1
