/- ref.Head answers 'hd', as rlp.Head does. -/
import Derived.Test.YtkdpphcalekbdaaK1
set_option linter.unusedVariables false
set_option linter.unusedSimpArgs false
namespace Go.Proofs.Ytkdpphcalekbdaa.K1
open Go.ChangeShapes Go.WideShapes Go.ChangeAt Go.RowKit
open M W1
theorem longP_short (r : List UInt8) (k : Nat) (h : r.length < k) : longP r k = (0, 41) := by unfold longP; rw [if_pos h]
theorem longP_zero (r : List UInt8) (k : Nat) (h : k ≤ r.length) (h0 : r.headD 0 = 0) : longP r k = (0, 42) := by unfold longP; rw [if_neg (by omega), if_pos h0]
theorem longP_out (r : List UInt8) (k : Nat) (h : k ≤ r.length) (h0 : r.headD 0 ≠ 0) (hx : ofDigits (r.take k) ≤ 55 ∨ 1099511627776 < ofDigits (r.take k)) : longP r k = (0, 42) := by unfold longP; rw [if_neg (by omega), if_neg h0, if_pos hx]
theorem longP_in (r : List UInt8) (k : Nat) (h : k ≤ r.length) (h0 : r.headD 0 ≠ 0) (hx : ¬ (ofDigits (r.take k) ≤ 55 ∨ 1099511627776 < ofDigits (r.take k))) : longP r k = (ofDigits (r.take k), 0) := by unfold longP; rw [if_neg (by omega), if_neg h0, if_neg hx]
theorem hdBody_long (r : List UInt8) (l k : Nat) (hk : 1 ≤ k) : hdBody r l (55 + k) = if (longP r k).2 ≠ 0 then .error (longP r k).2 else if r.length < k + (longP r k).1 then .error 41 else .ok (l, 1 + k, 1 + k + (longP r k).1) := by
  unfold hdBody; rw [if_neg (by omega), show 55 + k - 55 = k from by omega]
theorem read_part (lo hi g off c k : Nat) (b : UInt8) (r : List UInt8) (w : World) (hlo : lo ≤ g) (hgh : g < hi) (hhi : hi ≤ w.heap.size) (hc : r.length + 1 ≤ c) (hc2 : c ≤ 9223372036854775807) (hk1 : 1 ≤ k) (hk : k ≤ 8) (hkr : k ≤ r.length)
    (hcell' : ∀ j (hj : j < (b :: r).length), w.cell? ⟨g, off + j, none⟩ = some (.int .u8 (((b :: r)[j]'hj).toNat : Int))) :
    Hid (∀ w0 : World, Below w.heap.size w w0 → Calls Try.prog 61 #[.slice (some ⟨g, off + 1, none⟩) k (c - 1)] w0 fun e w' => e = .returned (.agg #[.int .u64 ((ofDigits (r.take k) : Nat) : Int), .int .u64 (limbN (ofDigits (r.take k)) 1 : Nat), .int .u64 (limbN (ofDigits (r.take k)) 2 : Nat), .int .u64 (limbN (ofDigits (r.take k)) 3 : Nat)]) ∧ Below w0.heap.size w0 w') := by
  have hl : (r.take k).length = k := by rw [List.length_take]; omega
  have hB : Bs w lo hi (.slice (some ⟨g, off + 1, none⟩) k (c - 1)) (r.take k) := by
    refine ⟨some ⟨g, off + 1, none⟩, c - 1, by rw [hl], by omega, by omega, by simp, fun _ => ⟨g, off + 1, rfl, hlo, hgh, fun j u hu => ?_⟩⟩
    have hj : j < (r.take k).length := by
      rw [← nums_length]; exact (List.getElem?_eq_some_iff.1 hu).1
    rw [nums_get _ _ hj, List.getElem_take] at hu
    rw [← Option.some.inj hu]
    have := hcell' (j + 1) (by simp only [List.length_cons]; omega)
    rw [List.getElem_cons_succ] at this
    rw [show off + 1 + j = off + (j + 1) from by omega]
    exact this
  have hV : ofDigits (r.take k) < 18446744073709551616 := by
    have := ofDigits_lt (r.take k)
    have h2 : 256 ^ (r.take k).length ≤ 256 ^ 8 := Nat.pow_le_pow_right (by omega) (by omega)
    have h3 : (256 : Nat) ^ 8 = 18446744073709551616 := by decide
    omega
  intro w0 hw0
  have := refRead_any lo hi _ (r.take k) w0 (hB.keep (Same.of_below hw0 hhi)) (by omega) (Nat.le_trans hhi hw0.size)
  rw [limbN_self hV] at this
  exact this
theorem rhead_part0 (lo hi g off c : Nat) (b : UInt8) (r : List UInt8) (w : World) (hlo : lo ≤ g) (hgh : g < hi) (hhi : hi ≤ w.heap.size) (hn : r.length + 1 < 1099511627776) (hnc : r.length + 1 ≤ c) (hc2 : c ≤ 9223372036854775807) (q : Nat) (hq : b.toNat = 128 + q) (hq64 : q < 64)
    (hcell' : ∀ j (hj : j < (b :: r).length), w.cell? ⟨g, off + j, none⟩ = some (.int .u8 (((b :: r)[j]'hj).toNat : Int))) :
    Calls Try.prog 53 #[.slice (some ⟨g, off, none⟩) (r.length + 1) c] w fun e w' => e = .returned (hdV (hd (b :: r))) ∧ Below w.heap.size w w' := by
  have hgw : g < w.heap.size := by omega
  have hcell : w.cell? ⟨g, off, none⟩ = some (.int .u8 (128 + (q : Int))) := by
    have := hcell' 0 (by simp)
    simp only [Nat.add_zero, List.getElem_cons_zero] at this
    rw [this, hq]; simp
  have hbody : hd (b :: r) = hdBody r 0 q := by rw [hd_cons, if_neg (by omega), if_pos (by omega), show b.toNat - 128 = q from by omega]
  by_cases h55 : q ≤ 55
  · by_cases hsh : r.length < q
    · rw [hbody, show hdBody r 0 q = .error 41 from by unfold hdBody; rw [if_pos h55, if_pos hsh]]
      exact rh_short0 g off c _ q w hgw hn hnc hcell h55 hsh
    · by_cases h1 : q = 1
      · obtain ⟨b1, r1, rfl⟩ : ∃ b1 r1, r = b1 :: r1 := by
          cases r with
          | nil => simp at hsh; omega
          | cons b1 r1 => exact ⟨b1, r1, rfl⟩
        have hcell1 := hcell' 1 (by simp)
        have hcell1 : w.cell? ⟨g, off + 1, none⟩ = some (.int .u8 (b1.toNat : Int)) := by simpa using hcell1
        by_cases hb : b1.toNat < 128
        · rw [hbody, show hdBody (b1 :: r1) 0 q = .error 42 from by unfold hdBody; rw [if_pos h55, if_neg (by omega), if_pos ⟨rfl, h1, hb⟩]]
          exact rh_one0 g off c _ q w hgw hn hnc hcell h55 h1 b1.toNat (by simp) hcell1 hb
        · rw [hbody, show hdBody (b1 :: r1) 0 q = .ok (0, 1, 1 + 1) from by unfold hdBody; rw [if_pos h55, if_neg (by omega), if_neg (fun h => hb h.2.2), h1]]
          exact rh_oneOk0 g off c _ q w hgw hn hnc hcell h55 h1 b1.toNat (by simp) hcell1 hb
      · rw [hbody, show hdBody r 0 q = .ok (0, 1, 1 + q) from by unfold hdBody; rw [if_pos h55, if_neg hsh, if_neg (fun h => h1 h.2.1)]]
        exact rh_ok0 g off c _ q w hgw hn hnc hcell h55 (by omega) h1
  · obtain ⟨k, rfl⟩ : ∃ k, q = 55 + k := ⟨q - 55, by omega⟩
    have hcellk : w.cell? ⟨g, off, none⟩ = some (.int .u8 (183 + (k : Int))) := by rw [hcell]; congr 2; omega
    rw [hbody, hdBody_long r 0 k (by omega)]
    by_cases hkr : r.length < k
    · rw [longP_short r k hkr]
      exact rh_lshort0 g off c _ k w hgw hn hnc (by omega) (by omega) hcellk hkr
    have Hread := read_part lo hi g off c k b r w hlo hgh hhi hnc hc2 (by omega) (by omega) (by omega) hcell'
    have h1 : w.cell? ⟨g, off + 1, none⟩ = some (.int .u8 ((r.headD 0).toNat : Int)) := by
      cases r with
      | nil => simp at hkr; omega
      | cons b1 r1 => have := hcell' 1 (by simp); simpa using this
    by_cases hz : r.headD 0 = 0
    · rw [longP_zero r k (by omega) hz]
      exact rh_lzero0 g off c _ k _ _ _ _ w hgw hn hnc (by omega) (by omega) hcellk Hread (by omega) _ h1 (by rw [hz]; rfl)
    have hz' : (r.headD 0).toNat ≠ 0 := fun h => hz (UInt8.toNat_inj.1 h)
    by_cases hx : ofDigits (r.take k) ≤ 55
    · rw [longP_out r k (by omega) hz (.inl hx)]
      exact rh_lsmall0 g off c _ k _ _ _ _ w hgw hn hnc (by omega) (by omega) hcellk Hread (by omega) _ h1 hz' (by omega) (by omega)
    by_cases hx2 : 1099511627776 < ofDigits (r.take k)
    · rw [longP_out r k (by omega) hz (.inr hx2)]
      exact rh_lbig0 g off c _ k _ _ _ _ w hgw hn hnc (by omega) (by omega) hcellk Hread (by omega) _ h1 hz' (by omega)
    rw [longP_in r k (by omega) hz (by omega)]
    by_cases hs : r.length < k + ofDigits (r.take k)
    · show Calls _ _ _ _ fun e w' => e = .returned (hdV (if r.length < k + ofDigits (r.take k) then .error 41 else _)) ∧ _
      rw [if_pos hs]
      exact rh_lto0 g off c _ k _ _ _ _ w hgw hn hnc (by omega) (by omega) hcellk Hread (by omega) _ h1 hz' (by omega) (by omega) (by omega)
    · show Calls _ _ _ _ fun e w' => e = .returned (hdV (if r.length < k + ofDigits (r.take k) then .error 41 else .ok (0, 1 + k, 1 + k + ofDigits (r.take k)))) ∧ _
      rw [if_neg hs]
      exact rh_lok0 g off c _ k _ _ _ _ w hgw hn hnc (by omega) (by omega) hcellk Hread (by omega) _ h1 hz' (by omega) (by omega) (by omega)
theorem rhead_part1 (lo hi g off c : Nat) (b : UInt8) (r : List UInt8) (w : World) (hlo : lo ≤ g) (hgh : g < hi) (hhi : hi ≤ w.heap.size) (hn : r.length + 1 < 1099511627776) (hnc : r.length + 1 ≤ c) (hc2 : c ≤ 9223372036854775807) (q : Nat) (hq : b.toNat = 192 + q) (hq64 : q < 64)
    (hcell' : ∀ j (hj : j < (b :: r).length), w.cell? ⟨g, off + j, none⟩ = some (.int .u8 (((b :: r)[j]'hj).toNat : Int))) :
    Calls Try.prog 53 #[.slice (some ⟨g, off, none⟩) (r.length + 1) c] w fun e w' => e = .returned (hdV (hd (b :: r))) ∧ Below w.heap.size w w' := by
  have hgw : g < w.heap.size := by omega
  have hcell : w.cell? ⟨g, off, none⟩ = some (.int .u8 (192 + (q : Int))) := by
    have := hcell' 0 (by simp)
    simp only [Nat.add_zero, List.getElem_cons_zero] at this
    rw [this, hq]; simp
  have hbody : hd (b :: r) = hdBody r 1 q := by rw [hd_cons, if_neg (by omega), if_neg (by omega), show b.toNat - 192 = q from by omega]
  by_cases h55 : q ≤ 55
  · by_cases hsh : r.length < q
    · rw [hbody, show hdBody r 1 q = .error 41 from by unfold hdBody; rw [if_pos h55, if_pos hsh]]
      exact rh_short1 g off c _ q w hgw hn hnc hcell h55 hsh
    · rw [hbody, show hdBody r 1 q = .ok (1, 1, 1 + q) from by unfold hdBody; rw [if_pos h55, if_neg hsh, if_neg (fun h => absurd h.1 (by omega))]]
      exact rh_ok1 g off c _ q w hgw hn hnc hcell h55 (by omega)
  · obtain ⟨k, rfl⟩ : ∃ k, q = 55 + k := ⟨q - 55, by omega⟩
    have hcellk : w.cell? ⟨g, off, none⟩ = some (.int .u8 (247 + (k : Int))) := by rw [hcell]; congr 2; omega
    rw [hbody, hdBody_long r 1 k (by omega)]
    by_cases hkr : r.length < k
    · rw [longP_short r k hkr]
      exact rh_lshort1 g off c _ k w hgw hn hnc (by omega) (by omega) hcellk hkr
    have Hread := read_part lo hi g off c k b r w hlo hgh hhi hnc hc2 (by omega) (by omega) (by omega) hcell'
    have h1 : w.cell? ⟨g, off + 1, none⟩ = some (.int .u8 ((r.headD 0).toNat : Int)) := by
      cases r with
      | nil => simp at hkr; omega
      | cons b1 r1 => have := hcell' 1 (by simp); simpa using this
    by_cases hz : r.headD 0 = 0
    · rw [longP_zero r k (by omega) hz]
      exact rh_lzero1 g off c _ k _ _ _ _ w hgw hn hnc (by omega) (by omega) hcellk Hread (by omega) _ h1 (by rw [hz]; rfl)
    have hz' : (r.headD 0).toNat ≠ 0 := fun h => hz (UInt8.toNat_inj.1 h)
    by_cases hx : ofDigits (r.take k) ≤ 55
    · rw [longP_out r k (by omega) hz (.inl hx)]
      exact rh_lsmall1 g off c _ k _ _ _ _ w hgw hn hnc (by omega) (by omega) hcellk Hread (by omega) _ h1 hz' (by omega) (by omega)
    by_cases hx2 : 1099511627776 < ofDigits (r.take k)
    · rw [longP_out r k (by omega) hz (.inr hx2)]
      exact rh_lbig1 g off c _ k _ _ _ _ w hgw hn hnc (by omega) (by omega) hcellk Hread (by omega) _ h1 hz' (by omega)
    rw [longP_in r k (by omega) hz (by omega)]
    by_cases hs : r.length < k + ofDigits (r.take k)
    · show Calls _ _ _ _ fun e w' => e = .returned (hdV (if r.length < k + ofDigits (r.take k) then .error 41 else _)) ∧ _
      rw [if_pos hs]
      exact rh_lto1 g off c _ k _ _ _ _ w hgw hn hnc (by omega) (by omega) hcellk Hread (by omega) _ h1 hz' (by omega) (by omega) (by omega)
    · show Calls _ _ _ _ fun e w' => e = .returned (hdV (if r.length < k + ofDigits (r.take k) then .error 41 else .ok (1, 1 + k, 1 + k + ofDigits (r.take k)))) ∧ _
      rw [if_neg hs]
      exact rh_lok1 g off c _ k _ _ _ _ w hgw hn hnc (by omega) (by omega) hcellk Hread (by omega) _ h1 hz' (by omega) (by omega) (by omega)
set_option maxRecDepth 100000 in
set_option maxHeartbeats 1000000 in
/-- ref.Head answers 'hd'. -/
theorem head53_any (lo hi : Nat) (v : Value) (bs : List UInt8) (w : World) (hb : Bs w lo hi v bs) (hhi : hi ≤ w.heap.size) (hlen : bs.length < 1099511627776) :
    Calls Try.prog 53 #[v] w fun e w' => e = .returned (hdV (hd bs)) ∧ Below w.heap.size w w' := by
  obtain ⟨A, c, rfl, h1, h2, hR⟩ := hb
  cases bs with
  | nil => exact rh_nil A c w
  | cons b r =>
    obtain ⟨g, off, rfl, hg1, hg2, hcell⟩ := hR.2 (by simp)
    have hcell' : ∀ j (hj : j < (b :: r).length), w.cell? ⟨g, off + j, none⟩ = some (.int .u8 (((b :: r)[j]'hj).toNat : Int)) := fun j hj => hcell j _ (nums_get _ _ hj)
    have hrl : (b :: r).length = r.length + 1 := by simp
    rw [hrl] at h1 hlen ⊢
    by_cases h128 : b.toNat < 128
    · have hc0 : w.cell? ⟨g, off, none⟩ = some (.int .u8 (b.toNat : Int)) := by
        have := hcell' 0 (by simp)
        simpa only [Nat.add_zero, List.getElem_cons_zero] using this
      rw [hd_cons, if_pos h128]
      exact rh_small g off c _ _ w (by omega) hlen h1 hc0 h128
    by_cases h192 : b.toNat < 192
    · exact rhead_part0 lo hi g off c b r w hg1 hg2 hhi hlen h1 h2 (b.toNat - 128) (by omega) (by omega) hcell'
    · exact rhead_part1 lo hi g off c b r w hg1 hg2 hhi hlen h1 h2 (b.toNat - 192) (by omega) (by have := b.toNat_lt; omega) hcell'
end Go.Proofs.Ytkdpphcalekbdaa.K1
