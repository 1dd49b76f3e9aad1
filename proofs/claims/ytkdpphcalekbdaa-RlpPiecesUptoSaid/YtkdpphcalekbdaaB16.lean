/- RlpPieces, walked. (printed by gen_b16.py) -/
import Derived.Test.YtkdpphcalekbdaaK3
import Derived.Test.YtkdpphcalekbdaaB14
import Derived.LoopN
set_option linter.unusedVariables false
set_option linter.unusedSimpArgs false
namespace Go.Proofs.Ytkdpphcalekbdaa.B16
open Go.ChangeShapes Go.WideShapes Go.ChangeAt Go.RowKit Go.Shelf
open M W1 G1 L1 J1 J3 B11 J2 K1
attribute [local go_sem] Oper.semAt_some
def isFunc : TypeDesc → Bool
  | .func .. => true
  | _ => false
theorem und46 : (Try.prog.underlying 46).map isFunc = some true := by kernel_rfl
/-- A function is not nil. -/
theorem func_nil (f : Fn) (c b : Array Value) (W : World) : (binOp .eql 46 (.func f c b) .nilFunc).run Try.prog W = .ok (.bool false) W := by
  obtain ⟨d, hd, hf⟩ := Option.map_eq_some_iff.1 und46
  cases d <;> simp only [isFunc, Bool.false_eq_true] at hf
  have h : (Op.equalIn (9999 + 1) 46 (.func f c b) .nilFunc).run Try.prog W = .ok false W := by
    rw [Op.equalIn]
    simp only [Sem.run_bind, run_underlying hd, Result.andThen, Sem.run_pure]
  show (((Op.equalIn (9999 + 1) 46 (.func f c b) .nilFunc) >>= fun r => pure (Value.bool r) : Sem Value)).run Try.prog W = _
  rw [Sem.run_bind, h]
  rfl
/-- The pieces bear their numbers. -/
theorem eachF_num (bs : List UInt8) : ∀ (g p i j : Nat) (x : Pc), (eachF bs g p i)[j]? = some x → x.1 = i + j
  | 0, _, _, _, _, h => by simp [eachF] at h
  | g + 1, p, i, j, x, h => by
    rw [eachF] at h
    split at h
    · cases hh : hd (bs.drop p) with
      | error e => simp [hh] at h
      | ok q =>
        obtain ⟨l, f, t⟩ := q
        simp only [hh] at h
        cases j with
        | zero => simp at h; subst h; rfl
        | succ j =>
          rw [List.getElem?_cons_succ] at h
          have := eachF_num bs g _ _ j x h
          omega
    · simp at h
theorem pieces_num (bs : List UInt8) (j : Fin (pieces bs).length) : ((pieces bs)[j.1]'j.2).1 = j.1 := by
  have := eachF_num bs bs.length 0 0 j.1 _ (List.getElem?_eq_getElem j.2)
  rw [Nat.zero_add] at this
  exact this
def pcL (bs : List UInt8) (j : Fin (pieces bs).length) : Nat := ((pieces bs)[j.1]'j.2).2.1
def pcF (bs : List UInt8) (j : Fin (pieces bs).length) : Nat := ((pieces bs)[j.1]'j.2).2.2.1
def pcT (bs : List UInt8) (j : Fin (pieces bs).length) : Nat := ((pieces bs)[j.1]'j.2).2.2.2
theorem pcV_at (bs : List UInt8) (j : Fin (pieces bs).length) : pcV ((pieces bs)[j.1]'j.2) = #[.int .i64 (j.1 : Int), .agg #[.int .i64 (pcL bs j : Int), .int .i64 (pcF bs j : Int), .int .i64 (pcT bs j : Int)]] := by
  unfold pcV
  rw [pieces_num]
  rfl
theorem pcCells_at : ∀ (l : List Pc) (j : Nat) (h : j < l.length), (pcCells l)[3 * j]? = some (.int .i64 ((l[j]'h).2.1 : Nat)) ∧ (pcCells l)[3 * j + 1]? = some (.int .i64 ((l[j]'h).2.2.1 : Nat)) ∧ (pcCells l)[3 * j + 2]? = some (.int .i64 ((l[j]'h).2.2.2 : Nat))
  | [], _, h => absurd h (by simp)
  | x :: l, 0, _ => ⟨rfl, rfl, rfl⟩
  | x :: l, j + 1, h => by
    have hj : j < l.length := by simp at h; omega
    obtain ⟨a, b, c⟩ := pcCells_at l j hj
    have e : pcCells (x :: l) = [.int .i64 (x.2.1 : Nat), .int .i64 (x.2.2.1 : Nat), .int .i64 (x.2.2.2 : Nat)] ++ pcCells l := rfl
    have hs : ∀ o, (pcCells (x :: l))[3 * (j + 1) + o]? = (pcCells l)[3 * j + o]? := fun o => by
      rw [e, List.getElem?_append_right (by simp; omega)]
      congr 1
      simp
      omega
    exact ⟨(hs 0).trans a, (hs 1).trans b, (hs 2).trans c⟩
def mark (D : Nat) : Deferred := { target := .collected D, args := #[] }
/-- A function leaves with the marks of ranges that are done. -/
theorem leaves_marks {F : Fence} {n : Nat} {P : Program} {fn : Func} {tmps : Array Value} {R : Ending → World → Prop} (B : Nat) : ∀ (Ds : List Nat) (W : World), Ds.Nodup → (∀ D ∈ Ds, B ≤ D ∧ W.heap[D]? = some (.deferred (some []))) →
    (∀ W' : World, Below B W W' → LeavesIn F n P fn tmps R [] .returning W') → LeavesInM F n P fn tmps R (Ds.map mark) .returning W
  | [], W, _, _, h => h W (Below.refl _ _)
  | D :: Ds, W, hn, hD, h => by
    obtain ⟨hB, hK⟩ := hD D (List.mem_cons_self ..)
    obtain ⟨h1, h2⟩ := List.nodup_cons.1 hn
    refine ⟨by simp, .inl ⟨D, _, rfl, run_takeDeferred hK, ?_⟩⟩
    have hb : Below B W (W.putObj D (.deferred none)) := ⟨rfl, rfl, rfl, by simp [World.putObj], fun k hk => World.putObj_heap_other (by omega)⟩
    refine leaves_marks B Ds _ h2 (fun D' hD' => ?_) (fun W' hW' => h W' (hb.trans hW'))
    obtain ⟨hB', hK'⟩ := hD D' (List.mem_cons_of_mem _ hD')
    refine ⟨hB', (World.putObj_heap_other (fun e => ?_)).trans hK'⟩
    subst e
    exact h1 hD'
/-- The world at the head of the loop. -/
def Lp (most : Int) (w w4 : World) (sl : Value) (k B6 : Nat) (Ds : List Nat) (W : World) : Prop :=
  W.heap[w.heap.size]? = some (.cells #[.int .i64 most] 3 (0, 0)) ∧ W.heap[w.heap.size + 1]? = some (.cells #[.bool false] 4 (0, 0)) ∧ W.heap[w4.heap.size]? = some (.cells #[sl] 48 (0, 0)) ∧ W.heap[B6]? = some (.cells #[.int .i64 (k : Int)] 3 (0, 0)) ∧
  Below w.heap.size w W ∧ (∀ b, w.heap.size + 2 ≤ b → b < w4.heap.size → W.heap[b]? = w4.heap[b]?) ∧ w.heap.size + 2 ≤ w4.heap.size ∧ w4.heap.size < B6 ∧ Ds.Nodup ∧ (∀ D ∈ Ds, w4.heap.size < D ∧ W.heap[D]? = some (.deferred (some [])))
/-- What a range's round keeps. -/
def Tk (b bI : Nat) (k : Nat) : Prop := k < b ∧ k ≠ bI
/-- The world between two rounds of a range. -/
def MidP (wq : World) (bI i : Nat) (W : World) : Prop :=
  W.heap[bI]? = some (.cells #[.int .i64 (i : Int)] 3 (0, 0)) ∧ H4.KeepT (Tk wq.heap.size bI) wq W ∧ W.os = wq.os ∧ W.tape = wq.tape ∧ W.output = wq.output
theorem midP_own {β : Type} (wq : World) (bI : Nat) (f : β → Nat) (hb : bI < wq.heap.size) : OwnFrom wq.heap.size (fun (x : β) W => MidP wq bI (f x) W) :=
  own_blocks _ _ fun s W W' hs hz ho ht hu hk => by
    obtain ⟨h0, h1, h2, h3, h4⟩ := hs
    have z0 := (Array.getElem?_eq_some_iff.1 h0).1
    have z1 := h1.1
    exact ⟨(hk _ z0 hb).trans h0, ⟨by omega, fun k hK => (hk k (by have := hK.1; omega) hK.1).trans (h1.2 k hK)⟩, ho.trans h2, ht.trans h3, hu.trans h4⟩
theorem midP_alloc {wq : World} {bI i : Nat} {W : World} (hb : bI < wq.heap.size) (hI : MidP wq bI i W) (o : Obj) : MidP wq bI i (W.alloc o) :=
  midP_own wq bI (fun _ : Unit => i) hb () W _ none hI ⟨rfl, rfl, rfl, by rw [size_alloc]; omega, fun k hk _ => Below.heap_alloc _ _ _ hk⟩ (fun r e => by cases e)
theorem midP_next {wq W : World} {bI i : Nat} {u : Int} {i' : Nat} (hu : u = (i' : Int)) (hb : bI < wq.heap.size) (hI : MidP wq bI i W) : MidP wq bI i' (W.setCell ⟨bI, 0, none⟩ (.int .i64 u)) := by
  subst hu
  obtain ⟨h0, h1, h2, h3, h4⟩ := hI
  refine ⟨?_, ⟨by simp [World.setCell]; exact h1.1, fun k hk => (heap_set _ _ _ _ _ (Ne.symm hk.2)).trans (h1.2 k hk)⟩, h2, h3, h4⟩
  simp [World.setCell, Array.getElem?_modify, h0]
theorem lp_next {most : Int} {w w4 : World} {sl : Value} {k B6 i D : Nat} {Ds : List Nat} {W wq W2 : World} {u : Int} (hu : u = ((k + 1 : Nat) : Int)) (h : Lp most w w4 sl k B6 Ds W) (hq : Below W.heap.size W wq) (hz : W.heap.size < wq.heap.size) (hM : MidP wq W.heap.size i W2) (hD : wq.heap.size ≤ D) (hK : W2.heap[D]? = some (.deferred (some []))) :
    Lp most w w4 sl (k + 1) W2.heap.size (D :: Ds) (W2.alloc (.cells #[.int .i64 u] 3)) := by
  subst hu
  obtain ⟨q0, q1, q5, q6, qB, qK, qz, qz2, qn, qD⟩ := h
  obtain ⟨m0, m1, m2, m3, m4⟩ := hM
  have q6z := (Array.getElem?_eq_some_iff.1 q6).1
  have hs := m1.1
  have hw := qB.size
  have kk : ∀ o : Obj, ∀ k, k < W.heap.size → (W2.alloc o).heap[k]? = W.heap[k]? := fun o k hk => (Below.heap_alloc _ _ _ (by omega)).trans ((m1.2 k ⟨by omega, by omega⟩).trans (hq.block k hk))
  refine ⟨(kk _ _ (by omega)).trans q0, (kk _ _ (by omega)).trans q1, (kk _ _ (by omega)).trans q5, by rw [heap_alloc, if_pos rfl], ⟨m2.trans (hq.os.trans qB.os), m3.trans (hq.tape.trans qB.tape), m4.trans (hq.output.trans qB.output), by rw [size_alloc]; omega, fun k hk => (kk _ k (by omega)).trans (qB.block k hk)⟩,
    fun b h1 h2 => (kk _ b (by omega)).trans (qK b h1 h2), qz, by omega, List.nodup_cons.2 ⟨fun hm => ?_, qn⟩, fun D' hD' => ?_⟩
  · have := (Array.getElem?_eq_some_iff.1 (qD D hm).2).1
    omega
  · rcases List.mem_cons.1 hD' with rfl | hm
    · exact ⟨by omega, (Below.heap_alloc _ _ _ (Array.getElem?_eq_some_iff.1 hK).1).trans hK⟩
    · obtain ⟨d1, d2⟩ := qD D' hm
      exact ⟨d1, (kk _ D' (Array.getElem?_eq_some_iff.1 d2).1).trans d2⟩
section
set_option maxRecDepth 100000 in
set_option maxHeartbeats 2000000 in
theorem pieces7 (v : Value) (bs : List UInt8) (most : Int) (w : World) (hb : Bs w 0 w.heap.size v bs) (hl : bs.length ≤ 1048576) :
    Calls Try.prog 7 #[v, .int .i64 most] w fun e w' => e = .returned (.bool true) ∧ Below w.heap.size w w' := by
  have C12 := Lib.hid A1.awake12
  have C18 := Lib.hid (c18 hb (Nat.le_refl _) (by omega))
  have D18 := Lib.hid (c18 hb (Nat.le_refl _) (by omega))
  have HBB : Hid (∀ W, Below w.heap.size w W → Bs W 0 w.heap.size v bs) := fun W hW => hb.keep (Same.of_below hW (Nat.le_refl _))
  have HPL := Lib.hid (pieces_len bs)
  have HL := Lib.hid hl
  obtain ⟨vA, vc, rfl⟩ : ∃ A c, v = .slice A bs.length c := by obtain ⟨A, c, rfl, _⟩ := hb; exact ⟨_, _, rfl⟩
  clear hb hl
  refine (callsIn_wide (n := 6)).1 ?_
  refine callsIn_of_wp_marks Try.func7 rfl trivial ?_ rfl
  refine wpIn_wide.2 ?_
  simp only [Try.ntmps7, List.size_toArray, List.length_cons, List.length_nil, Nat.reduceAdd, Nat.reduceSub, Array.replicate_succ, Array.replicate_zero, List.push_toArray, List.append_toArray, List.nil_append, List.cons_append]
  go_wp2_with (first
    | (go_at_call 12; refine (C12.out _).mono ?_
       rintro e w1 ⟨rfl, hb1⟩
       have HB1 : Hid (Below (w.heap.size + 2) ((w.alloc (.cells #[.int .i64 most] 3)).alloc (.cells #[.bool false] 4)) w1) := hb1.mono (by simp only [size_alloc]; omega)
       have HW1 : Hid (Below w.heap.size w w1) := (((Below.refl _ w).alloc (Nat.le_refl _) _).alloc (by rw [size_alloc]; omega) _).trans (HB1.out.mono (by omega))
       clear hb1)
    | (go_at_call 18; refine (C18.out _ HW1.out).mono ?_
       rintro e w2 ⟨A2, c2, rfl, hs2, hb2⟩
       have HB2 := Lib.hid hb2
       clear hb2 hs2 C18)
    | (go_at_call 21; refine (each21 _ _ _ _).mono ?_; rintro e w3 ⟨rfl, rfl⟩; have hfn := func_nil (.func 52) #[] #[.pointer (some ⟨w2.heap.size, 0, none⟩)] (w2.alloc (.cells #[.slice A2 bs.length c2] 23)))
    | (go_at_call 22; refine (reach22 _ _ _ bs _ (HBB.out _ (HW1.out.trans ((HB2.out.alloc HB2.out.size _).mono HW1.out.size))) (by have := HW1.out.size; have := HB2.out.size; rw [size_alloc]; omega) (by have := HL.out; omega)).mono ?_
       rintro e w4 ⟨v4, rfl, ho4, hb4⟩
       have HO4 := Lib.hid ho4
       obtain ⟨A4, c4, rfl⟩ := F2.own_shape ho4
       have HB4 := Lib.hid hb4
       clear ho4 hb4))
  have HB14 : Hid (Below w1.heap.size w1 w4) := (HB2.out.alloc HB2.out.size _).trans (HB4.out.mono (by have := HB2.out.size; rw [size_alloc]; omega))
  have HZ1 : Hid (w.heap.size + 2 ≤ w1.heap.size) := (show _ ≤ _ from by have := HB1.out.size; simp only [size_alloc] at this; omega)
  have HRd : Hid (Rd w4 (w.heap.size + 2) w4.heap.size 3 A4 (pieces bs).length (pcCells (pieces bs))) := (Rd.of_own HO4.out).wide (by have := HZ1.out; have := HB2.out.size; rw [size_alloc]; omega) (Nat.le_refl _)
  have HBw4 : Hid (Below (w.heap.size + 2) ((w.alloc (.cells #[.int .i64 most] 3)).alloc (.cells #[.bool false] 4)) w4) := HB1.out.trans (HB14.out.mono HZ1.out)
  clear hfn C12 HB1 HW1 HB2 HB4 HO4 HB14
  have HZ4 : Hid (w.heap.size + 2 ≤ w4.heap.size) := (show _ ≤ _ from by have := HBw4.out.size; simp only [size_alloc] at this; omega)
  refine wp_loop (fun a W => ∃ (k B6 : Nat) (Ds : List Nat) (u7 u8 u9 u10 u11 u12 u13 u14 u15 u16 u17 u18 u19 u20 u21 u22 u23 u24 u25 u26 u27 u28 u29 u30 u31 u32 u33 u34 u35 u36 u37 u38 u39 u40 u41 u42 u43 u44 u45 u46 u47 u48 u49 u50 u51 u52 u53 u54 u55 u56 u57 u58 u59 u60 u61 u62 u63 u64 u65 u66 u67 u68 u69 u70 u71 u72 u73 u74 u75 u76 u77 u78 u79 u80 u81 u82 u83 u84 u85 : Value), k ≤ 2 ∧ Ds.length = k ∧ a = { tmps := #[.slice vA bs.length vc, .int .i64 most, undef, .pointer (some ⟨w.heap.size, 0, none⟩), .pointer (some ⟨w.heap.size + 1, 0, none⟩), .pointer (some ⟨w4.heap.size, 0, none⟩), .pointer (some ⟨B6, 0, none⟩), u7, u8, u9, u10, u11, u12, u13, u14, u15, u16, u17, u18, u19, u20, u21, u22, u23, u24, u25, u26, u27, u28, u29, u30, u31, u32, u33, u34, u35, u36, u37, u38, u39, u40, u41, u42, u43, u44, u45, u46, u47, u48, u49, u50, u51, u52, u53, u54, u55, u56, u57, u58, u59, u60, u61, u62, u63, u64, u65, u66, u67, u68, u69, u70, u71, u72, u73, u74, u75, u76, u77, u78, u79, u80, u81, u82, u83, u84, u85], defers := Ds.map mark } ∧ Hid (Lp most w w4 (.slice A4 (pieces bs).length c4) k B6 Ds W)) (fun a _ => 2 - a.defers.length) ?start ?round
  case start =>
    refine ⟨0, w4.heap.size + 1, [], _, _, _, _, _, _, _, _, _, _, _, _, _, _, _, _, _, _, _, _, _, _, _, _, _, _, _, _, _, _, _, _, _, _, _, _, _, _, _, _, _, _, _, _, _, _, _, _, _, _, _, _, _, _, _, _, _, _, _, _, _, _, _, _, _, _, _, _, _, _, _, _, _, _, _, _, _, _, _, by omega, rfl, rfl, ?_⟩
    have hz := HZ4.out
    have hB := HBw4.out
    have q : ∀ k, k < w4.heap.size → ((w4.alloc (.cells #[.slice A4 (pieces bs).length c4] 48)).alloc (.cells #[.int .i64 0] 3)).heap[k]? = w4.heap[k]? := fun k hk => by
      rw [heap_alloc, if_neg (by rw [size_alloc]; omega), heap_alloc, if_neg (by omega)]
    refine ⟨?_, ?_, ?_, ?_, ?_, fun b h1 h2 => q b h2, hz, by omega, List.nodup_nil, fun D hD => by cases hD⟩
    · exact (q _ (by omega)).trans ((hB.block _ (by omega)).trans (by rw [heap_alloc, if_neg (by rw [size_alloc]; omega), heap_alloc, if_pos rfl]))
    · exact (q _ (by omega)).trans ((hB.block _ (by omega)).trans (by rw [heap_alloc, if_pos (by rw [size_alloc])]))
    · rw [heap_alloc, if_neg (by rw [size_alloc]; omega), heap_alloc, if_pos rfl]
    · rw [heap_alloc, if_pos (by rw [size_alloc])]; rfl
    · exact (((((Below.refl _ w).alloc (Nat.le_refl _) _).alloc (by rw [size_alloc]; omega) _).trans (hB.mono (by omega))).alloc (by omega) _).alloc (by rw [size_alloc]; omega) _
  case round =>
    rintro a W ⟨k, B6, Ds, u7, u8, u9, u10, u11, u12, u13, u14, u15, u16, u17, u18, u19, u20, u21, u22, u23, u24, u25, u26, u27, u28, u29, u30, u31, u32, u33, u34, u35, u36, u37, u38, u39, u40, u41, u42, u43, u44, u45, u46, u47, u48, u49, u50, u51, u52, u53, u54, u55, u56, u57, u58, u59, u60, u61, u62, u63, u64, u65, u66, u67, u68, u69, u70, u71, u72, u73, u74, u75, u76, u77, u78, u79, u80, u81, u82, u83, u84, u85, hk2, hDs, rfl, HLp⟩
    obtain ⟨h0, h1, h5, h6, _⟩ := HLp.out
    have c6 : W.cell? ⟨B6, 0, none⟩ = some (.int .i64 (k : Int)) := by simp [World.cell?, h6]
    have HDs := Lib.hid hDs
    clear hDs h0 h1 h5 h6
    by_cases hlt : k < 2
    · have hzW := HLp.out.2.2.2.2.1.size
      go_wp2_with (first
        | (go_at_call 18; refine (D18.out _ (HLp.out.2.2.2.2.1.alloc HLp.out.2.2.2.2.1.size _)).mono ?_
           rintro e w5 ⟨A5, c5, rfl, hs5, hb5⟩
           have HS5 := Lib.hid hs5
           have HB5 : Hid (Below (W.heap.size + 1) (W.alloc (.cells #[.int .i64 0] 3)) w5) := hb5.mono (by rw [size_alloc]; omega)
           clear hb5 hs5)
        | (go_at_call 21; refine (each21 _ _ _ _).mono ?_; rintro e w6 ⟨rfl, rfl⟩))
      clear c6
      obtain ⟨q0, q1, q5, q6, qB, qK, qz, qz2, qn, qD⟩ := HLp.out
      have q6z := (Array.getElem?_eq_some_iff.1 q6).1
      have z5 := HB5.out.size
      rw [size_alloc] at z5
      obtain ⟨wq, hwq⟩ : ∃ wq, wq = w5.alloc (.cells #[.slice A5 bs.length c5] 23) := ⟨_, rfl⟩
      rw [← hwq]
      have hsz : wq.heap.size = w5.heap.size + 1 := by rw [hwq, size_alloc]
      have hqk : ∀ k, k < w5.heap.size → wq.heap[k]? = w5.heap[k]? := fun k hk => by rw [hwq, heap_alloc, if_neg (by omega)]
      have hqW : ∀ k, k < W.heap.size → wq.heap[k]? = W.heap[k]? := fun k hk => (hqk k (by omega)).trans ((HB5.out.block k (by omega)).trans (Below.heap_alloc _ _ _ hk))
      have hqI : wq.heap[W.heap.size]? = some (.cells #[.int .i64 0] 3 (0, 0)) := (hqk _ (by omega)).trans ((HB5.out.block _ (by omega)).trans (by rw [heap_alloc, if_pos rfl]))
      have hqE : wq.heap[w5.heap.size]? = some (.cells #[.slice A5 bs.length c5] 23 (0, 0)) := by rw [hwq, heap_alloc, if_pos rfl]
      have hqB : Below W.heap.size W wq := by
        rw [hwq]
        exact (((Below.refl _ W).alloc (Nat.le_refl _) _).trans (HB5.out.mono (by omega))).alloc (by omega) _
      have hTs : ∀ k, Tk wq.heap.size W.heap.size k → k < wq.heap.size := fun k hk => hk.1
      have hS : bs.length ≤ c5 ∧ c5 ≤ 9223372036854775807 ∧ RdS wq (Tk wq.heap.size W.heap.size) 1 A5 bs.length (nums bs) := by
        obtain ⟨A', c', e, h1, h2, h3⟩ := HS5.out
        obtain ⟨rfl, _, rfl⟩ := (Value.slice.injEq _ _ _ _ _ _).mp e
        exact ⟨h1, h2, ((h3.toS (S := fun k => W.heap.size + 1 ≤ k ∧ k < w5.heap.size) (fun b hb1 hb2 => ⟨by rw [size_alloc] at hb1; exact hb1, hb2⟩)).keep (fun k hk => hqk k hk.2)).wide (fun b hb => ⟨by have := hb.2; omega, by have := hb.1; omega⟩)⟩
      have hseq := each_stopsF 5 (by omega) w5.heap.size A5 c5 (Tk wq.heap.size W.heap.size) bs (by have := HL.out; omega) hS.1 hS.2.1 wq hTs ⟨by omega, by omega⟩ (by simp [World.cell?, hqE]) hS.2.2
      rw [funext (pcV_at bs)] at hseq
      have HSEQ := Lib.hid hseq
      have HTs := Lib.hid hTs
      have HQW := Lib.hid hqW
      have HQB := Lib.hid hqB
      have HQI := Lib.hid hqI
      have HSZ : Hid (W.heap.size < w5.heap.size ∧ wq.heap.size = w5.heap.size + 1) := ⟨by omega, hsz⟩
      have HZZ : Hid (w.heap.size + 2 ≤ w4.heap.size ∧ w4.heap.size < B6 ∧ B6 < W.heap.size) := ⟨qz, qz2, q6z⟩
      have hbI : W.heap.size < wq.heap.size := by omega
      have HBI := Lib.hid hbI
      clear hseq hTs hS hqE hqB hqI hqW hqk hsz hwq z5 q6z q0 q1 q5 q6 qB qK qz qz2 qn qD hzW hbI
      refine (wpIn_wide (n := 6)).1 ?_
      refine wpIn_rangeFunc_ownH rfl (by omega) (gf := 52) (lb := #[.pointer (some ⟨w5.heap.size, 0, none⟩)]) rfl trivial (enters_of Try.func52 (by kernel_rfl) rfl)
        HSEQ.out (fun h k => h.trans k) (H4.keepT_b HTs.out) (Below.refl _ _) (fun _ => rfl)
        (fun pre W' => MidP wq W.heap.size pre.length W')
        (fun c (pre : List (Fin (pieces bs).length)) W' => (c = .ret ∧ ∃ (pre' : List (Fin (pieces bs).length)) (x : Fin (pieces bs).length), pre = pre' ++ [x] ∧ x.1 ≠ pre'.length) ∨ (c = .exit 2 ∧ k = 1 ∧ MidP wq W.heap.size pre.length W'))
        (midP_own wq W.heap.size List.length HBI.out)
        (fun c s A B row hs hg hr => hs.imp id (fun h => ⟨h.1, h.2.1, midP_own wq W.heap.size List.length HBI.out s A B row h.2.2 hg hr⟩))
        ?start
        (fun j a' W' => ∃ Bx, wq.heap.size ≤ Bx ∧ W'.heap[Bx]? = some (.cells #[.int .i64 (pcL bs j : Int), .int .i64 (pcF bs j : Int), .int .i64 (pcT bs j : Int)] 51 (0, 0)) ∧ a' = { tmps := #[.slice vA bs.length vc, .int .i64 most, undef, .pointer (some ⟨w.heap.size, 0, none⟩), .pointer (some ⟨w.heap.size + 1, 0, none⟩), .pointer (some ⟨w4.heap.size, 0, none⟩), .pointer (some ⟨B6, 0, none⟩), .pointer (some ⟨W.heap.size, 0, none⟩), .int .i64 (j.1 : Int), .pointer (some ⟨Bx, 0, none⟩), u10, u11, u12, u13, u14, u15, u16, u17, u18, u19, .int .i64 (k : Int), .bool true, u22, u23, .slice vA bs.length vc, .slice A5 bs.length c5, .func (.func 52) #[] #[.pointer (some ⟨w5.heap.size, 0, none⟩)], .int .i64 (j.1 : Int), .agg #[.int .i64 (pcL bs j : Int), .int .i64 (pcF bs j : Int), .int .i64 (pcT bs j : Int)], u29, u30, u31, u32, u33, u34, u35, u36, u37, u38, u39, u40, u41, u42, u43, u44, u45, u46, u47, u48, u49, u50, u51, u52, u53, u54, u55, u56, u57, u58, u59, u60, u61, u62, u63, u64, u65, u66, u67, u68, u69, u70, u71, u72, u73, u74, u75, u76, u77, u78, u79, u80, u81, u82, u83, u84, u85], defers := [] })
        (fun x a' s A B row hs hg hr => by obtain ⟨Bx, h0, h1, h2⟩ := hs; exact ⟨Bx, h0, E3.kept_block hg (fun q e => (hr q e).2) h1, h2⟩) ?assign ?body ?done ?stop
      case start => exact ⟨HQI.out, H4.KeepT.refl _ _, rfl, rfl, rfl⟩
      case assign =>
        rintro l pre x W' K hI hK
        have hzW : wq.heap.size ≤ W'.heap.size := hI.2.1.1
        gi_wp2
        exact hK _ _ ((KeepsOthers.alloc _ _).from _) ((H4.KeepT.refl _ W').alloc (fun k hk => Nat.lt_of_lt_of_le hk.1 hzW) _) (midP_alloc HBI.out hI _) ⟨W'.heap.size, hzW, block_new _ _, rfl⟩
      case body =>
        rintro l pre j a' W' hl ⟨rl, hrl⟩ hI ⟨Bx, hBx, hblk, rfl⟩ hlt'
        have hKT := hI.2.1
        obtain ⟨q0, q1, q5, q6, qB, qK, qz, qz2, qn, qD⟩ := HLp.out
        obtain ⟨zz0, zz1, zz2⟩ := HZZ.out
        obtain ⟨zs0, zs1⟩ := HSZ.out
        have kk : ∀ k, k < W.heap.size → W'.heap[k]? = W.heap[k]? := fun k hk => (hKT.2 k ⟨by omega, by omega⟩).trans (HQW.out k hk)
        have ri := hI.1
        have r3 := (kk w.heap.size (by omega)).trans q0
        have r4 := (kk (w.heap.size + 1) (by omega)).trans q1
        have r5 := (kk w4.heap.size (by omega)).trans q5
        have r6 := (kk B6 (by omega)).trans q6
        have ci : W'.cell? ⟨W.heap.size, 0, none⟩ = some (.int .i64 (pre.length : Int)) := by simp [World.cell?, ri]
        have fi : W'.frozen? ⟨W.heap.size, 0, none⟩ = false := by simp [World.frozen?, ri]
        have c3 : W'.cell? ⟨w.heap.size, 0, none⟩ = some (.int .i64 most) := by simp [World.cell?, r3]
        have cr : W'.cell? ⟨w.heap.size + 1, 0, none⟩ = some (.bool false) := by simp [World.cell?, r4]
        have fr : W'.frozen? ⟨w.heap.size + 1, 0, none⟩ = false := by simp [World.frozen?, r4]
        have ce : W'.cell? ⟨w4.heap.size, 0, none⟩ = some (.slice A4 (pieces bs).length c4) := by simp [World.cell?, r5]
        have c6 : W'.cell? ⟨B6, 0, none⟩ = some (.int .i64 (k : Int)) := by simp [World.cell?, r6]
        obtain ⟨t0, t1, t2, t3⟩ := block_cells hblk
        have HI := Lib.hid hI
        have HRI := Lib.hid ri
        have HBX := Lib.hid hBx
        by_cases hxi : j.1 = pre.length
        · obtain ⟨ji, hjm⟩ := j
          simp only at hxi
          subst hxi
          obtain ⟨g, off, hA4, hg1, hg2, hcs⟩ := HRd.out.2 (by omega)
          obtain ⟨p0, p1, p2⟩ := pcCells_at (pieces bs) pre.length hjm
          have kg : W'.heap[g]? = w4.heap[g]? := (kk g (by omega)).trans (qK g hg1 hg2)
          have e0 : W'.cell? ⟨g, off + pre.length * 3, none⟩ = some (.int .i64 (pcL bs ⟨pre.length, hjm⟩)) := by
            have := (World.cell?_of_block (w := w4) (a := ⟨g, off + 3 * pre.length, none⟩) kg).trans (hcs _ _ p0)
            rwa [Nat.mul_comm] at this
          have e1 : W'.cell? ⟨g, off + pre.length * 3 + 1, none⟩ = some (.int .i64 (pcF bs ⟨pre.length, hjm⟩)) := by
            have := (World.cell?_of_block (w := w4) (a := ⟨g, off + (3 * pre.length + 1), none⟩) kg).trans (hcs _ _ p1)
            rwa [Nat.mul_comm, ← Nat.add_assoc] at this
          have e2 : W'.cell? ⟨g, off + pre.length * 3 + 2, none⟩ = some (.int .i64 (pcT bs ⟨pre.length, hjm⟩)) := by
            have := (World.cell?_of_block (w := w4) (a := ⟨g, off + (3 * pre.length + 2), none⟩) kg).trans (hcs _ _ p2)
            rwa [Nat.mul_comm, ← Nat.add_assoc] at this
          have hn1 : ¬ ((pieces bs).length : Int) ≤ (pre.length : Int) := by omega
          have HN1 : Hid (decide ((pieces bs).length ≤ pre.length) = false) := by
            have h : decide ((pieces bs).length ≤ pre.length) = false := by
              rw [decide_eq_false_iff_not]
              omega
            exact h
          have hjb : pre.length < 1048576 := by have := HPL.out; have := HL.out; omega
          have hov : (pre.length : Int) + 1 < 9223372036854775808 := by omega
          have hwrap : ((pre.length : Int) + 1) = ((pre.length + 1 : Nat) : Int) := by omega
          have hne6 : ¬ W.heap.size = B6 := by omega
          have hne6' : ¬ B6 = W.heap.size := by omega
          have hne3 : ¬ W.heap.size = w.heap.size := by omega
          have hne3' : ¬ w.heap.size = W.heap.size := by omega
          have HWR := Lib.hid hwrap
          subst hA4
          generalize pcL bs ⟨pre.length, hjm⟩ = pl at *
          generalize pcF bs ⟨pre.length, hjm⟩ = pf at *
          generalize pcT bs ⟨pre.length, hjm⟩ = pt at *
          clear hI ri r3 r4 r5 r6 hblk kk kg hcs p0 p1 p2 q0 q1 q5 q6 qB qK qz qz2 qn qD zz0 zz1 zz2 zs0 zs1 hKT hwrap hBx
          gi_wp2
          refine wpIn_region_reads2 (by kernel_rfl) (by decide +kernel) (by decide +kernel) ?_
          have hd1 := HN1.out
          iterate 39 (refine wpS2_run (by rfl) rfl (fun K hK => ?_); go_wp2)
          refine wpS2_nil ?_
          clear hd1
          have hnext := midP_next (u := ((pre.length : Int) + 1)) (i' := pre.length + 1) HWR.out HBI.out HI.out
          have hlen1 : ∀ x : Fin (pieces bs).length, (pre ++ [x]).length = pre.length + 1 := fun x => by rw [List.length_append, List.length_singleton]
          have HNEXT := Lib.hid hnext
          have HLEN1 := Lib.hid hlen1
          clear hnext hlen1
          have fin : ∀ W2 : World, W2.heap = (W'.setCell ⟨W.heap.size, 0, none⟩ (.int .i64 (((pre.length : Int) + 1)))).heap → W2.os = W'.os → W2.tape = W'.tape → W2.output = W'.output →
              KeepsFrom wq.heap.size W' W2 ∧ H4.KeepT (Tk wq.heap.size W.heap.size) W' W2 ∧ MidP wq W.heap.size (pre ++ [(⟨pre.length, hjm⟩ : Fin (pieces bs).length)]).length W2 := fun W2 h2 ho ht hu => by
            have hsz2 : W2.heap.size = W'.heap.size := by rw [h2]; simp [World.setCell]
            refine ⟨⟨by omega, fun k o hk h0 hc => ?_⟩, ⟨by omega, fun k hk => ?_⟩, ?_⟩
            · rw [h2, heap_set _ _ _ _ _ (by have := HBI.out; omega)]
              exact h0
            · rw [h2, heap_set _ _ _ _ _ (Ne.symm hk.2)]
            · obtain ⟨a1, a2, a3, a4, a5⟩ := HNEXT.out
              rw [HLEN1.out]
              exact ⟨by rw [h2]; exact a1, ⟨by rw [hsz2]; have := a2.1; simpa [World.setCell] using this, fun k hk => by rw [h2]; exact a2.2 k hk⟩, ho.trans a3, ht.trans a4, hu.trans a5⟩
          have FIN := Lib.hid fin
          clear fin
          rcases (show k = 0 ∨ k = 1 by omega) with rfl | rfl
          · gi_wp2
            exact FIN.out _ rfl rfl rfl rfl
          · by_cases hm : most < (pre.length : Int) + 1
            · gi_wp2
              have h := FIN.out ((W'.setCell ⟨W.heap.size, 0, none⟩ (.int .i64 ((pre.length : Int) + 1))).drew) rfl rfl rfl rfl
              exact ⟨h.1, .inr ⟨rfl, h.2.2⟩⟩
            · gi_wp2
              exact FIN.out _ rfl rfl rfl rfl
        · have HNE : Hid ((((j.1 : Nat) : Int) == (pre.length : Int)) = false ∧ (((j.1 : Nat) : Int) != (pre.length : Int)) = true ∧ (j.1 == pre.length) = false ∧ (j.1 != pre.length) = true) := by
            have h : (((j.1 : Nat) : Int) == (pre.length : Int)) = false ∧ (((j.1 : Nat) : Int) != (pre.length : Int)) = true ∧ (j.1 == pre.length) = false ∧ (j.1 != pre.length) = true := by
              refine ⟨?_, ?_, ?_, ?_⟩
              · rw [beq_eq_false_iff_ne]; omega
              · rw [bne_iff_ne]; omega
              · rw [beq_eq_false_iff_ne]; omega
              · rw [bne_iff_ne]; omega
            exact h
          have HXI := Lib.hid hxi
          clear hI ri r3 r4 r5 r6 hblk kk q0 q1 q5 q6 qB qK qz qz2 qn qD zz0 zz1 zz2 zs0 zs1 hKT hBx hxi
          gi_wp2
          refine wpIn_region_reads2 (by kernel_rfl) (by decide +kernel) (by decide +kernel) ?_
          obtain ⟨hb1, hb2, hb3, hb4⟩ := HNE.out
          iterate 4 (refine wpS2_run (by rfl) rfl (fun K hK => ?_); go_wp2)
          iterate 4 (refine wpS2_skip (by rfl) ?_; simp only [Act.put, List.setIfInBounds_toArray, List.set_cons_zero, List.set_cons_succ])
          iterate 2 (refine wpS2_run (by rfl) rfl (fun K hK => ?_); go_wp2)
          iterate 8 (refine wpS2_skip (by rfl) ?_; simp only [Act.put, List.setIfInBounds_toArray, List.set_cons_zero, List.set_cons_succ])
          iterate 2 (refine wpS2_run (by rfl) rfl (fun K hK => ?_); go_wp2)
          iterate 8 (refine wpS2_skip (by rfl) ?_; simp only [Act.put, List.setIfInBounds_toArray, List.set_cons_zero, List.set_cons_succ])
          iterate 2 (refine wpS2_run (by rfl) rfl (fun K hK => ?_); go_wp2)
          iterate 8 (refine wpS2_skip (by rfl) ?_; simp only [Act.put, List.setIfInBounds_toArray, List.set_cons_zero, List.set_cons_succ])
          iterate 1 (refine wpS2_run (by rfl) rfl (fun K hK => ?_); go_wp2)
          refine wpS2_nil ?_
          clear hb1 hb2 hb3 hb4
          gi_wp2
          exact ⟨⟨by simp [World.setCell], fun k o hk ho hc => (KeepsOthers.setCell W' _ _).same k o ho hc⟩, .inl ⟨rfl, pre, j, rfl, HXI.out⟩⟩
      case done =>
        rintro D ys W2 hD rfl hI hK
        have hlm : (List.finRange (pieces bs).length).length = (pieces bs).length := List.length_finRange
        have hI' : MidP wq W.heap.size (pieces bs).length W2 := by
          have h : MidP wq W.heap.size (List.finRange (pieces bs).length).length W2 := hI
          rwa [hlm] at h
        clear hI hlm
        have hKT := hI'.2.1
        obtain ⟨q0, q1, q5, q6, qB, qK, qz, qz2, qn, qD⟩ := HLp.out
        obtain ⟨zz0, zz1, zz2⟩ := HZZ.out
        obtain ⟨zs0, zs1⟩ := HSZ.out
        have kk : ∀ k, k < W.heap.size → W2.heap[k]? = W.heap[k]? := fun k hk => (hKT.2 k ⟨by omega, by omega⟩).trans (HQW.out k hk)
        have ri := hI'.1
        have r5 := (kk w4.heap.size (by omega)).trans q5
        have r6 := (kk B6 (by omega)).trans q6
        have hz2 : B6 < W2.heap.size := by have := hKT.1; omega
        have ci : W2.cell? ⟨W.heap.size, 0, none⟩ = some (.int .i64 ((pieces bs).length : Int)) := by simp [World.cell?, ri]
        have ce : W2.cell? ⟨w4.heap.size, 0, none⟩ = some (.slice A4 (pieces bs).length c4) := by simp [World.cell?, r5]
        have c6 : W2.cell? ⟨B6, 0, none⟩ = some (.int .i64 (k : Int)) := by simp [World.cell?, r6]
        have HI := Lib.hid hI'
        have HK := Lib.hid hK
        clear hI' hKT q0 q1 q5 q6 qB qK qz qz2 qn qD zz0 zz1 zz2 zs0 zs1 kk ri r5 r6 hK
        rcases (show k = 0 ∨ k = 1 by omega) with rfl | rfl
        · go_wp2
          refine ⟨⟨1, W2.heap.size, D :: Ds, _, _, _, _, _, _, _, _, _, _, _, _, _, _, _, _, _, _, _, _, _, _, _, _, _, _, _, _, _, _, _, _, _, _, _, _, _, _, _, _, _, _, _, _, _, _, _, _, _, _, _, _, _, _, _, _, _, _, _, _, _, _, _, _, _, _, _, _, _, _, _, _, _, _, _, _, _, _, _, by omega, by rw [List.length_cons, HDs.out], rfl, ?_⟩, ?_⟩
          · exact lp_next rfl HLp.out HQB.out HBI.out HI.out hD HK.out
          · rw [List.length_cons, List.length_map, HDs.out]; decide
        · go_wp2
          refine ⟨⟨2, W2.heap.size, D :: Ds, _, _, _, _, _, _, _, _, _, _, _, _, _, _, _, _, _, _, _, _, _, _, _, _, _, _, _, _, _, _, _, _, _, _, _, _, _, _, _, _, _, _, _, _, _, _, _, _, _, _, _, _, _, _, _, _, _, _, _, _, _, _, _, _, _, _, _, _, _, _, _, _, _, _, _, _, _, _, _, by omega, by rw [List.length_cons, HDs.out], rfl, ?_⟩, ?_⟩
          · exact lp_next rfl HLp.out HQB.out HBI.out HI.out hD HK.out
          · rw [List.length_cons, List.length_map, HDs.out]; decide
      case stop =>
        rintro D c pre W2 hD hpre (⟨rfl, pre', x, rfl, hne⟩ | ⟨rfl, hk1, hI⟩) hK
        · exfalso
          have e := List.IsPrefix.getElem hpre (i := pre'.length) (by simp)
          have e2 : x.1 = pre'.length := by
            rw [List.getElem_append_right (Nat.le_refl _)] at e
            simp at e
            rw [e]
          exact hne e2
        · subst hk1
          refine wpIn_wide.2 ?_
          have hKT := hI.2.1
          obtain ⟨q0, q1, q5, q6, qB, qK, qz, qz2, qn, qD⟩ := HLp.out
          obtain ⟨zz0, zz1, zz2⟩ := HZZ.out
          obtain ⟨zs0, zs1⟩ := HSZ.out
          have r6 := ((hKT.2 B6 ⟨by omega, by omega⟩).trans (HQW.out B6 zz2)).trans q6
          have hz2 : B6 < W2.heap.size := by have := hKT.1; omega
          have c6 : W2.cell? ⟨B6, 0, none⟩ = some (.int .i64 ((1 : Nat) : Int)) := by simp [World.cell?, r6]
          have HI := Lib.hid hI
          have HK := Lib.hid hK
          clear hI hKT q0 q1 q5 q6 qB qK qz qz2 qn qD zz0 zz1 zz2 zs0 zs1 r6 hK hpre
          go_wp2
          refine ⟨⟨2, W2.heap.size, D :: Ds, _, _, _, _, _, _, _, _, _, _, _, _, _, _, _, _, _, _, _, _, _, _, _, _, _, _, _, _, _, _, _, _, _, _, _, _, _, _, _, _, _, _, _, _, _, _, _, _, _, _, _, _, _, _, _, _, _, _, _, _, _, _, _, _, _, _, _, _, _, _, _, _, _, _, _, _, _, _, _, by omega, by rw [List.length_cons, HDs.out], rfl, ?_⟩, ?_⟩
          · exact lp_next rfl HLp.out HQB.out HBI.out HI.out hD HK.out
          · rw [List.length_cons, List.length_map, HDs.out]; decide
    · obtain rfl : k = 2 := by omega
      have c1 : W.cell? ⟨w.heap.size + 1, 0, none⟩ = some (.bool false) := by simp [World.cell?, HLp.out.2.1]
      have f1 : W.frozen? ⟨w.heap.size + 1, 0, none⟩ = false := by simp [World.frozen?, HLp.out.2.1]
      have g1 : (W.setCell ⟨w.heap.size + 1, 0, none⟩ (.bool true)).heap[w.heap.size + 1]? = some (.cells #[.bool true] 4 (0, 0)) := by simp [World.setCell, Array.getElem?_modify, HLp.out.2.1]
      go_wp2
      obtain ⟨q0, q1, q5, q6, qB, qK, qz, qz2, qn, qD⟩ := HLp.out
      refine leaves_marks (w.heap.size + 2) Ds _ qn (fun D hD => ?_) (fun W' hW' => ?_)
      · obtain ⟨d1, d2⟩ := qD D hD
        exact ⟨by omega, (heap_set _ _ _ _ _ (by omega)).trans d2⟩
      · have e1 := (hW'.block (w.heap.size + 1) (by omega)).trans g1
        have e2 : W'.cell? ⟨w.heap.size + 1, 0, none⟩ = some (.bool true) := by simp [World.cell?, e1]
        exact ⟨.bool true, by simp [results, Try.results7, go_sem, e2], rfl, (qB.setCell (p := ⟨w.heap.size + 1, 0, none⟩) (by simp) _).trans (hW'.mono (by omega))⟩
end
end Go.Proofs.Ytkdpphcalekbdaa.B16
