/- append(row, make([]byte, 8)...) onto a row of the call's own. -/
import Derived.Test.YtnlcndlfdnogaaaRg
import Derived.Lib.AppendZerosOnto
set_option linter.unusedVariables false
set_option linter.unusedSimpArgs false
namespace Go.Proofs.Ytnlcndlfdnogaaa.Z
open Go.RowKit
open D0 M D2 D3
attribute [local go_sem] xor64 and64 or64 xor32 and32 or32 andNot32 add64 add32 unary64 unary32 not64 not32 shl64 shr64 shl32 shr32
theorem zeros8 (n : Nat) : Builtin.zeroCells #[Value.int .u8 0] n = (nums (List.replicate n 0#8)).toArray := by
  apply Array.ext
  · simp [size_zeroCells]
  · intro i h1 h2
    simp [Builtin.zeroCells, nums, n8, Nat.mod_one]
theorem run_append_room8 {P : Program} (w : World) (t tn ty e : TypeId) (i : TypeInfo) (kn : IntKind) (ht : P.underlying t = some (.slice e)) (htn : P.underlying tn = some (.int kn)) (hi : P.info? e = some i) (hz : i.zero = some (.int .u8 0)) (hs : i.size = 1) (hb : i.bytes = 1)
    (g sLen sCap : Nat) (cur : Array Value) (hg : w.heap[g]? = some (.cells cur e (0, 0))) (m : Nat) (h0 : 0 < m) (hm : m ≤ 1073741824) (hroom : sLen + m ≤ sCap) (hfit : sLen + m ≤ cur.size) :
    (Builtin.append_ #[t, tn] ty #[.slice (some ⟨g, 0, none⟩) sLen sCap, .int .i64 m]).run P w =
      .ok (.slice (some ⟨g, 0, none⟩) (sLen + m) sCap) (w.setRow g (cur.toList.take sLen ++ nums (List.replicate m 0#8) ++ cur.toList.drop (sLen + m)).toArray) := by
  have hst := run_storeCells_at P g sLen e (nums (List.replicate m 0#8)) 0 cur w hg (by simpa using hfit) (nums_one _)
  simp only [Nat.add_zero, nums_length, List.length_replicate] at hst
  have hw : IntKind.i64.wrap (m : Int) = m := by rw [IntKind.wrap_i64]; omega
  have hneg : ¬ ((m : Int) < 0) := by omega
  have hm0 : ¬ m = 0 := by omega
  have h48i : ¬ (281474976710656 < (m : Int)) := by omega
  have hzc : (Value.int .u8 0).cells = #[Value.int .u8 0] := rfl
  simp [Builtin.append_, run_underlying ht, run_underlying htn, sizeOf, typeInfo, hi, hz, hs, hb, zeroValue, asInt, asIntOf, hw, hneg, hm0, h48i, hroom, Addr.add_lit, zeros8, hzc, hst]
theorem wp_append_zeros {P : Program} {ops : Array Oper} {rest : List Oper} {o : Oper} {a : Act} {Q : Exit → Act → World → Prop} {w : World} (hgd : o.guard = none) (s x : Operand) (t tn e : TypeId) (kn : IntKind)
    (ho : o.op = .call { callee := .builtin .append, args := #[s, x], argTypes := #[t, tn] })
    (ht : P.underlying t = some (.slice e)) (htn : P.underlying tn = some (.int kn)) (hinfo : (P.info? e).map (fun i => (i.zero, i.size, i.bytes)) = some (some (.int .u8 0), 1, 1))
    (base : Nat) (v : Value) (n : Nat) (xs : List Byte) (m : Nat) (hs : a.eval s = v) (hx : a.eval x = .int .i64 (m : Int)) (h0 : 0 < m) (hm : m ≤ 1073741824)
    (hn : 0 < n) (HO : w.ownsRow base e 1 v n (nums xs)) (hl : n ≤ 1099511627776) (hbase : base ≤ w.heap.size)
    (h : ∀ v' w', w'.ownsRow base e 1 v' (n + m) (nums (xs ++ List.replicate m 0#8)) → w.grownBy w' v.ownBlock → wpList P ops Q rest (a.put o.dst v') w') :
    wpList P ops Q (o :: rest) a w := by
  obtain ⟨i, hi, hzz⟩ := Option.map_eq_some_iff.1 hinfo
  simp only [Prod.mk.injEq] at hzz
  obtain ⟨hz0, hz1, hz2⟩ := hzz
  have hx1 := HO.1
  rw [nums_length, Nat.mul_one] at hx1
  rcases HO.2 with ⟨_, h0⟩ | ⟨g, cap, cur, rfl, hb, hg, hnc, hcm, hcs, htake⟩
  · omega
  rw [Nat.mul_one] at hcs htake
  by_cases hroom : n + m ≤ cap
  · refine Lib.wpList_append_run _ hgd s x t tn ho _ _ hs hx _ _ (run_append_room8 w t tn o.type e i kn ht htn hi hz0 hz1 hz2 g n cap cur hg m h0 hm hroom (by omega)) (h _ _ ⟨by simp [hx1], .inr ⟨g, cap, _, rfl, hb, setRow_heap w g cur _ e _ hg, hroom, hcm, ?_, ?_⟩⟩ ⟨rfl, rfl, rfl, by simp, fun k _ hk => setRow_other w g k _ (fun e => hk (by simp [Value.ownBlock, e]))⟩)
    · simp only [List.size_toArray, List.length_append, List.length_take, List.length_drop, Array.length_toList, nums_length, List.length_replicate]
      omega
    · rw [htake, nums_append]
      have : (n + m) * 1 = (nums xs ++ nums (List.replicate m 0#8)).length := by simp [hx1]
      rw [this]
      exact List.take_left
  · have hold : (Builtin.firstCells i.size n (.slice (some ⟨g, 0, none⟩) n cap)).run P w.drew = .ok (nums xs).toArray w.drew :=
      run_firstCells_some (P := P) w.drew i.size n ⟨g, 0, none⟩ n cap (nums xs) (by rw [hz1]; exact HO.1) (fun j u hu => HO.cells (g := g) rfl j u hu)
    have hge := grownCap_ge w (n + m) cap e
    have hcm2 : grownCap w (n + m) cap e ≤ maxLen := grownCap_le_maxLen w (n + m) cap e (by unfold maxLen; omega)
    have hr := Lib.run_append_grow_zeros (P := P) w t tn o.type e i (.int .u8 0) .i64 kn ht htn hi hz0 (some ⟨g, 0, none⟩) n cap (nums xs) hold m h0 (by omega) (by omega) (by omega) (by rw [hz2]; omega) (growslice_fits (by omega) (by rw [hz2]; omega))
    refine Lib.wpList_append_run _ hgd s x t tn ho _ _ hs hx _ _ hr (h _ _ ⟨by simp [hx1], .inr ⟨w.heap.size, _, _, rfl, hbase, heap_alloc_new w.drew _, hge, hcm2, ?_, ?_⟩⟩ ⟨rfl, rfl, rfl, by simp, fun k hk _ => Below.heap_alloc _ _ _ hk⟩)
    · simp only [Array.size_append, List.size_toArray, size_zeroCells, nums_length]
      have : (Value.int IntKind.u8 0).cells.size = 1 := rfl
      rw [this]
      omega
    · have hzc : (Value.int .u8 0).cells = #[Value.int .u8 0] := rfl
      rw [hzc, zeros8]
      simp only [Array.toList_append, nums_append]
      have : (n + m) * 1 = (nums xs ++ nums (List.replicate m 0#8)).length := by simp [hx1]
      rw [this]
      exact List.take_left
/-- 's[m:]' of a row whose block is known, m not zero. -/
theorem cut_at {P : Program} (t e : TypeId) (ht : P.underlying t = some (.slice e)) (hi : (P.info? e).map (·.size) = some 1) (g n c m : Nat) (h0 : 0 < m) (hm : m ≤ n) (hc : m < c) :
    ∀ W : World, (Instr.slice t (.slice (some ⟨g, 0, none⟩) n c) (some (.int .i64 (m : Int))) none none).run P W = .ok (.slice (some ⟨g, m, none⟩) (n - m) (c - m)) W := fun W => by
  have hel : P.elem t = e := by simp [Program.elem, ht]
  have hu : P.underlying t = some (.slice (P.elem t)) := by rw [hel]; exact ht
  obtain ⟨i, hi1, hi2⟩ := Option.map_eq_some_iff.1 hi
  rw [run_slice_l W t _ n c hu .i64 (m : Int) (Int.natCast_nonneg _) (by omega), hel]
  have h1 : ¬ c = m := by omega
  have h2 : ¬ m = 0 := by omega
  simp [sizeOf, typeInfo, hi1, hi2, sliced, Result.andThen, Addr.add, h1, h2]
theorem rget {l : List Byte} {rest : List Value} {i : Nat} (h : i < l.length) : (nums l ++ rest)[i]? = some (.int .u8 (n8 (gt l 0#8 i))) := by
  rw [List.getElem?_append_left (by simpa using h)]
  exact nums_getD h
theorem rset {l : List Byte} {rest : List Value} {i : Nat} {v : Value} (h : i < l.length) : (nums l ++ rest).set i v = (nums l).set i v ++ rest := by
  rw [List.set_append_left _ _ (by simpa using h)]
/-- A row of the call's own as a block. -/
theorem own_arr {w : World} {base n : Nat} {v : Value} {xs : List Byte} (h : w.ownsRow base 5 1 v n (nums xs)) (hn : 0 < n) :
    ∃ g c rest, v = .slice (some ⟨g, 0, none⟩) n c ∧ base ≤ g ∧ n ≤ c ∧ c ≤ maxLen ∧ rest.length = c - n ∧ Arr w g 5 (nums xs ++ rest) := by
  have hl := h.1
  rw [nums_length, Nat.mul_one] at hl
  rcases h.2 with ⟨_, h0⟩ | ⟨g, cap, cur, rfl, hb, hg, hnc, hcm, hcs, htake⟩
  · omega
  rw [Nat.mul_one] at hcs htake
  refine ⟨g, cap, cur.toList.drop n, rfl, hb, hnc, hcm, by simp; omega, ?_⟩
  unfold Arr
  rw [hg, ← htake, List.take_append_drop]
theorem arr_own {w : World} {base n g c : Nat} {xs : List Byte} {rest : List Value} (h : Arr w g 5 (nums xs ++ rest)) (hl : xs.length = n) (hb : base ≤ g) (hn : n ≤ c) (hc : c ≤ maxLen) (hr : rest.length = c - n) : w.ownsRow base 5 1 (.slice (some ⟨g, 0, none⟩) n c) n (nums xs) := by
  refine ⟨by simp [hl], .inr ⟨g, c, _, rfl, hb, h, hn, hc, by simp; omega, ?_⟩⟩
  have : n * 1 = (nums xs).length := by simp [hl]
  rw [this]
  exact List.take_left
set_option maxRecDepth 100000 in
set_option maxHeartbeats 1000000 in
theorem lay28r (g off m c : Nat) (t : TypeId) (l : List Byte) (rest : List Value) (n : BitVec 64) (high : Nat) (hm : off + m ≤ l.length) (hm8 : m ≤ 8) (hc : m ≤ c) (hh : high ≤ 1) (w : World) (ha : Arr w g t (nums l ++ rest)) :
    Calls Try.prog 28 #[.slice (some ⟨g, off, none⟩) m c, .int .u64 (n64 n), .int .i64 (high : Int)] w fun e w' => (∃ v, e = .returned v) ∧ Only g w w' ∧ Arr w' g t (nums (layF off m n high l) ++ rest) := by
  have HA := Lib.hid ha
  have hl8 := low8
  have HLEN := Lib.hid (layIt_len off m n high l)
  clear ha
  go_enter Try.func28, Try.ntmps28
  go_wp2_with fail
  go_loopw [10] (fun i wr => ∃ k : Nat, k ≤ m ∧ i = .int .i64 (k : Int) ∧ Only g w wr ∧ Arr wr g t (nums (it (layStep off m n high) k l) ++ rest)) (fun i _ => m - (intOf i).toNat)
  case atStart => exact ⟨0, by omega, rfl, Only.refl _ _, HA.out⟩
  case round =>
    obtain ⟨k, hk, rfl, ho, har⟩ := hrel
    by_cases hlt : k < m
    · obtain ⟨q, hq⟩ : ∃ q, q = m - 1 - k := ⟨_, rfl⟩
      have hq1 : (m : Int) - 1 - (k : Int) = (q : Int) := by omega
      have HST := Lib.hid (it_succ (layStep off m n high) k l)
      have HQ := Lib.hid hq
      have hi1 : ¬ (m : Int) ≤ (q : Int) := by omega
      have hi2 : ¬ (m : Int) ≤ (k : Int) := by omega
      have hL := HLEN.out k
      have c1 := Arr.cell har (rget (i := off + q) (by omega))
      have c2 := Arr.cell har (rget (i := off + k) (by omega))
      have f1 := Arr.frozen har (off + q)
      have f2 := Arr.frozen har (off + k)
      have s1 : ((8 : Int) * (k : Int)) = ((8 * k : Nat) : Int) := by omega
      have s2 : (0 : Int) ≤ ((8 * k : Nat) : Int) := by omega
      have s3 : ((8 * k : Nat) : Int) ≤ 64 := by omega
      have HAR := Lib.hid har
      have HON := Lib.hid ho
      generalize hit : it (layStep off m n high) k l = lk at *
      generalize h8k : 8 * k = k8 at *
      have H8 := Lib.hid h8k
      have HLK := hL
      clear hq hit har ho h8k hL
      rcases (show high = 0 ∨ high = 1 by omega) with rfl | rfl
      · go_wp2
        go_roundw
        case rel =>
          refine ⟨k + 1, by omega, by go_num, HON.out.trans (Only.set _ _ _ _), ?_⟩
          rw [HST.out]
          unfold layStep
          rw [if_neg (by omega), H8.out, ← nums_set, ← rset (by omega)]
          exact HAR.out.set _ _
        case measure => simp [intOf]; omega
      · go_wp2
        go_roundw
        case rel =>
          refine ⟨k + 1, by omega, by go_num, HON.out.trans (Only.set _ _ _ _), ?_⟩
          rw [HST.out]
          unfold layStep
          rw [if_pos rfl, H8.out, ← nums_set, ← HQ.out, ← rset (by omega)]
          exact HAR.out.set _ _
        case measure => simp [intOf]; omega
    · obtain rfl : k = m := by omega
      have HAR := Lib.hid har
      have HON := Lib.hid ho
      clear har ho
      go_wp2
      go_end0
      exact ⟨⟨_, rfl⟩, HON.out, HAR.out⟩
end Go.Proofs.Ytnlcndlfdnogaaa.Z
