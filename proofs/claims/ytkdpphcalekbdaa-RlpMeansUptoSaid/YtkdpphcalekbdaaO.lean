/- What comes in: a slice of bytes, a slice of nodes; how the law's row is closed behind a walk that only makes new blocks. -/
import Derived.Test.YtkdpphcalekbdaaQ
import Derived.Test.YtkdpphcalekbdaaU
import Derived.Carry
import Derived.ChangeSlices
import Derived.Deep.Slices
set_option linter.unusedVariables false
set_option linter.unusedSimpArgs false
namespace Go.Proofs.Ytkdpphcalekbdaa.O
open Go.ChangeShapes Go.WideShapes Go.ChangeAt Go.RowKit Go.Deep
open M
theorem cells5 : Try.prog.cellsOf 5 = 1 := by kernel_rfl
theorem cells23 : Try.prog.cellsOf 23 = 1 := by kernel_rfl
theorem cells3 : Try.prog.cellsOf 3 = 1 := by kernel_rfl
theorem cells108 : Try.prog.cellsOf 108 = 3 := by kernel_rfl
theorem laidOut : laidOutB Try.prog = true := by kernel_rfl
theorem spot_none {w : World} {a : Addr} {v : Value} (h : w.cell? (a.add 0) = some v) : ∃ g off, a = ⟨g, off, none⟩ ∧ g < w.heap.size := by
  obtain ⟨g, off, s⟩ := a
  have hs : s = none := by simpa [Addr.add] using World.cell?_spot h
  subst hs
  exact ⟨g, off, rfl, World.block_lt_of_cell? w _ h⟩
theorem F2nil (w : World) (S : Nat → Prop) : Nds w S (.slice none 0 0) [] := ⟨none, 0, [], rfl, by simp, by omega, ⟨rfl, fun h => absurd h (by simp)⟩, rfl⟩
section
variable {H : Type} {enc : TypeId × Value → H} {w : World} {base : Nat} {sp : Nat → Bool} {held : Bool}
theorem open_bs {fuel : Nat} {cs : List Value} {x : DataW H × List MemPlace} (h : DataW.trod enc Try.prog w base sp held fuel 23 cs = some x) :
    ∃ A n c bs, cs = [.slice A n c] ∧ Bs w 0 w.heap.size (.slice A n c) bs ∧ bs.length + 1 ≤ Rows.uptoBulk x.1 := by
  rcases open_ints Try.underlying23 Try.underlying5 cells5 h with ⟨rfl, rfl⟩ | ⟨a, len, cap, zs, rfl, _, hl, hm, hz, rfl, hcell, hwz⟩
  · exact ⟨none, 0, 0, [], rfl, ⟨none, 0, rfl, by simp, by omega, Rd.nil _ _ _ _ _⟩, by simp [Rows.uptoBulk]⟩
  · have hlz : len ≤ zs.length := by rw [hz]; split <;> omega
    have hbl : ((zs.take len).map fun z => UInt8.ofNat z.toNat).length = len := by simp; omega
    refine ⟨some a, len, cap, (zs.take len).map fun z => UInt8.ofNat z.toNat, rfl, ⟨some a, cap, by rw [hbl], by rw [hbl]; exact hl, by simpa [maxLen] using hm, ?_⟩, ?_⟩
    · rw [hbl]
      refine ⟨by rw [nums_length, hbl]; omega, fun hn => ?_⟩
      obtain ⟨g, off, rfl, hg⟩ := spot_none (hcell 0 (by omega))
      refine ⟨g, off, rfl, Nat.zero_le _, hg, fun j u hu => ?_⟩
      have hj : j < len := by
        have := (List.getElem?_eq_some_iff.1 hu).1
        rw [nums_length, hbl] at this; exact this
      have hc := hcell j (by omega)
      rw [Addr.add_lit] at hc
      rw [hc, ← hu, nums_get _ _ (by rw [hbl]; exact hj)]
      have hjz : j < zs.length := by omega
      have hgd : zs.getD j 0 = zs[j]'hjz := by simp [List.getD, hjz]
      have hw := hwz _ (List.getElem_mem hjz)
      have h0 := bounds_u8 hw
      rw [hgd]
      simp only [List.getElem_map, List.getElem_take]
      congr 2
      rw [toNat_ofNat_mod]
      omega
    · simp only [Rows.uptoBulk]
      have e : ∀ l : List Int, Rows.uptoBulkAll (lits (H := H) .u8 l) = l.length := by
        intro l
        induction l with
        | nil => simp [lits, Rows.uptoBulkAll]
        | cons a l ih => simp only [lits, List.map_cons, Rows.uptoBulkAll, Rows.uptoBulk, List.length_cons] at ih ⊢; omega
      rw [e, hbl]
      simp only [List.length_take]
      omega
set_option maxRecDepth 100000 in
theorem node_of {n : Nat} {cs : List Value} {D : DataW H} {Pl : List MemPlace} (h : DataW.trod enc Try.prog w base sp held n 108 cs = some (D, Pl)) :
    ∃ (nd : Nd) (v : Value), cs = [.int .i64 nd.1, v, .int .i64 nd.2.2] ∧ BsS w (fun b => b < w.heap.size) v nd.2.1 ∧ nd.2.1.length + 1 ≤ Rows.uptoBulk D := by
  obtain ⟨ys, n', _, hx, hlen, hyl, hf⟩ := DataW.trod_struct Try.underlying108 h
  rw [cells108] at hlen
  match cs, hlen with
  | [c0, c1, c2], _ =>
    have f0 : DataW.trod enc Try.prog w base sp held n' 3 [c0] = ys[0]? := by simpa [cells3] using hf 0 _ rfl
    have f1 : DataW.trod enc Try.prog w base sp held n' 23 [c1] = ys[1]? := by simpa [cells23] using hf 1 _ rfl
    have f2 : DataW.trod enc Try.prog w base sp held n' 3 [c2] = ys[2]? := by simpa [cells3] using hf 2 _ rfl
    match ys, hyl with
    | [y0, y1, y2], _ =>
      obtain ⟨l, e0, q0, _⟩ := DataW.trod_int Try.underlying3 (f0.trans rfl)
      obtain ⟨A, n1, c, bs, e1, hb, hbk⟩ := open_bs (f1.trans rfl)
      obtain ⟨m, e2, q2, _⟩ := DataW.trod_int Try.underlying3 (f2.trans rfl)
      simp only [List.cons.injEq, and_true] at e0 e1 e2
      subst e0; subst e1; subst e2
      refine ⟨(l, bs, m), .slice A n1 c, rfl, ?_, ?_⟩
      · exact hb.toS fun b _ h => h
      · simp only [Prod.mk.injEq] at hx
        rw [hx.1]
        simp only [List.map_cons, List.map_nil, Rows.uptoBulk, Rows.uptoBulkAll]
        omega
set_option maxRecDepth 100000 in
theorem nodes_of (g : Nat) (hg : g < w.heap.size) : ∀ (m off : Nat) (D : Nat → DataW H) (Pl : Nat → List MemPlace) (n : Nat),
    (∀ i, i < m → ∃ cs', w.cells? base (⟨g, off + i * 3, none⟩ : Addr) 3 = some cs' ∧ DataW.trod enc Try.prog w base sp held n 108 cs' = some (D i, Pl i)) →
    ∃ (ns : List Nd) (inner : List Value), ns.length = m ∧ nodesR w (fun b => b < w.heap.size) ns inner ∧ (∀ j u, inner[j]? = some u → w.cell? ⟨g, off + j, none⟩ = some u) ∧ nbulk ns ≤ Rows.uptoBulkAll ((List.range m).map D) := by
  intro m
  induction m with
  | zero => intro off D Pl n _; exact ⟨[], [], rfl, rfl, fun j u h => by simp at h, by simp [nbulk]⟩
  | succ m ih =>
    intro off D Pl n h
    obtain ⟨cs', hc, ht⟩ := h 0 (by omega)
    obtain ⟨nd, v, rfl, hb, hk⟩ := node_of ht
    obtain ⟨ns, inner, h1, h2, h3, h4⟩ := ih (off + 3) (fun i => D (i + 1)) (fun i => Pl (i + 1)) n (fun i hi => by
      have := h (i + 1) (by omega)
      rwa [show off + (i + 1) * 3 = off + 3 + i * 3 from by omega] at this)
    have hcell := (World.cells?_some hc).2.2
    refine ⟨nd :: ns, [.int .i64 nd.1, v, .int .i64 nd.2.2] ++ inner, by simp [h1], ⟨v, inner, rfl, hb, h2⟩, fun j u hu => ?_, ?_⟩
    · by_cases hj : j < 3
      · rw [List.getElem?_append_left (by simpa using hj)] at hu
        have := hcell j hj
        rw [Addr.add_lit, hu, Nat.zero_mul, Nat.add_zero] at this
        exact this
      · rw [List.getElem?_append_right (by simpa using hj)] at hu
        have := h3 _ u hu
        rwa [show off + 3 + (j - [Value.int .i64 nd.1, v, .int .i64 nd.2.2].length) = off + j from by simp; omega] at this
    · rw [List.range_succ_eq_map]
      simp only [List.map_cons, List.map_map, Rows.uptoBulkAll, nbulk]
      have : (D ∘ Nat.succ) = fun i => D (i + 1) := rfl
      rw [this]
      omega
set_option maxRecDepth 100000 in
/-- A slice of nodes that comes in. -/
theorem open_nodes {v : Value} {d : DataW H} {p : List MemPlace} (hv : Value.okWide Try.prog w .any base 22 v) (h : DataW.Trod enc Try.prog w 0 sp held 22 v d p) :
    ∃ l : List Nd, Nds w (fun b => b < w.heap.size) v l ∧ nbulk l + 1 ≤ Rows.uptoBulk d := by
  obtain ⟨a, len, cap, rfl⟩ := okWide_slice Try.underlying22 hv
  obtain ⟨fuel, hf⟩ := h
  rcases open_slice Try.underlying22 hf with ⟨e, hx⟩ | ⟨a, len, cap, m, n, D, Pl, e, _, hl, hm, hmm, hx, hi⟩
  · simp only [Value.cells, List.cons.injEq, and_true] at e
    obtain ⟨rfl, rfl, rfl⟩ := (Value.slice.injEq _ _ _ _ _ _).mp (by simpa using e)
    simp only [Prod.mk.injEq] at hx
    rw [hx.1]
    exact ⟨[], F2nil w _, by simp [nbulk, Rows.uptoBulk]⟩
  · simp only [Value.cells, List.cons.injEq, and_true] at e
    obtain ⟨rfl, rfl, rfl⟩ := (Value.slice.injEq _ _ _ _ _ _).mp (by simpa using e)
    simp only [Prod.mk.injEq] at hx
    rw [hx.1]
    have hlm : len ≤ m := by rw [hmm]; split <;> omega
    rw [cells108] at hi
    rcases Nat.eq_zero_or_pos len with h0 | h0
    · subst h0
      exact ⟨[], ⟨some a, cap, [], rfl, by simp, by simpa [maxLen] using hm, ⟨rfl, fun h => absurd h (by simp)⟩, rfl⟩, by simp only [nbulk, Rows.uptoBulk]; omega⟩
    · have hcs := hi 0 (by omega)
      obtain ⟨cs', hc, ht⟩ := hcs
      have hc0 := (World.cells?_some hc).2.2 0 (by omega)
      rw [Nat.zero_mul] at hc0
      obtain ⟨nd, v, rfl, _⟩ := node_of ht
      have hc1 : w.cell? (a.add 0) = some (.int .i64 nd.1) := by
        have e : (a.add 0).add 0 = a.add 0 := by simp [Addr.add]
        rw [e] at hc0; exact hc0
      obtain ⟨g, off, rfl, hg⟩ := spot_none hc1
      obtain ⟨ns, inner, h1, h2, h3, h4⟩ := nodes_of g hg len off D Pl n (fun i hil => by
        have := hi i (by omega)
        rwa [Addr.add_lit] at this)
      subst h1
      refine ⟨ns, ⟨some ⟨g, off, none⟩, cap, inner, rfl, hl, by simpa [maxLen] using hm, ⟨h2.length, fun _ => ⟨g, off, rfl, hg, h3⟩⟩, h2⟩, ?_⟩
      simp only [Rows.uptoBulk]
      omega
set_option maxRecDepth 100000 in
theorem open_bytes {v : Value} {d : DataW H} {p : List MemPlace} (hv : Value.okWide Try.prog w .any base 23 v) (h : DataW.Trod enc Try.prog w 0 sp held 23 v d p) :
    ∃ bs : List UInt8, Bs w 0 w.heap.size v bs ∧ bs.length + 1 ≤ Rows.uptoBulk d := by
  obtain ⟨a, len, cap, rfl⟩ := okWide_slice Try.underlying23 hv
  obtain ⟨fuel, hf⟩ := h
  obtain ⟨A, n, c, bs, e, hb, hk⟩ := open_bs hf
  simp only [Value.cells, List.cons.injEq, and_true] at e
  obtain ⟨rfl, rfl, rfl⟩ := (Value.slice.injEq _ _ _ _ _ _).mp (by simpa using e)
  exact ⟨bs, hb, hk⟩
theorem cells55 : Try.prog.cellsOf 55 = 1 := by kernel_rfl
theorem cells57 : Try.prog.cellsOf 57 = 4 := by kernel_rfl
theorem wf_i64 {n : Int} (h : (Lit.int .i64 n).wf = true) : -9223372036854775808 ≤ n ∧ n ≤ 9223372036854775807 := by
  simp only [Lit.wf, Bool.and_eq_true, decide_eq_true_eq] at h
  exact h
theorem wf_u64 {n : Int} (h : (Lit.int .u64 n).wf = true) : U64 n := by
  simp only [Lit.wf, Bool.and_eq_true, decide_eq_true_eq] at h
  have h1 : (0 : Int) ≤ n := h.1
  have h2 : n ≤ 18446744073709551615 := h.2
  exact ⟨h1, by omega⟩
set_option maxRecDepth 100000 in
theorem open_num3 {v : Value} {d : DataW H} {p : List MemPlace} (hv : Value.okWide Try.prog w .any base 3 v) (h : DataW.Trod enc Try.prog w 0 sp held 3 v d p) :
    ∃ n : Int, v = .int .i64 n ∧ (-9223372036854775808 ≤ n ∧ n ≤ 9223372036854775807) := by
  obtain ⟨n, rfl, rfl, rfl, hw⟩ := open_int Try.underlying3 hv h
  exact ⟨n, rfl, wf_i64 hw⟩
set_option maxRecDepth 100000 in
theorem open_num55 {v : Value} {d : DataW H} {p : List MemPlace} (hv : Value.okWide Try.prog w .any base 55 v) (h : DataW.Trod enc Try.prog w 0 sp held 55 v d p) :
    ∃ n : Int, v = .int .u64 n ∧ U64 n := by
  obtain ⟨n, rfl, rfl, rfl, hw⟩ := open_int Try.underlying55 hv h
  exact ⟨n, rfl, wf_u64 hw⟩
set_option maxRecDepth 100000 in
theorem open_num5 {v : Value} {d : DataW H} {p : List MemPlace} (hv : Value.okWide Try.prog w .any base 5 v) (h : DataW.Trod enc Try.prog w 0 sp held 5 v d p) :
    ∃ n : Int, v = .int .u8 n ∧ (0 ≤ n ∧ n < 256) := by
  obtain ⟨n, rfl, rfl, rfl, hw⟩ := open_int Try.underlying5 hv h
  have := bounds_u8 hw
  exact ⟨n, rfl, by omega, by omega⟩
set_option maxRecDepth 100000 in
theorem open_word {v : Value} {d : DataW H} {p : List MemPlace} (hv : Value.okWide Try.prog w .any base 57 v) (h : DataW.Trod enc Try.prog w 0 sp held 57 v d p) :
    ∃ a b c e : Int, v = .agg #[.int .u64 a, .int .u64 b, .int .u64 c, .int .u64 e] ∧ U64 a ∧ U64 b ∧ U64 c ∧ U64 e := by
  simp only [Value.okWide, Try.underlying57] at hv
  obtain ⟨cs, rfl, h2, _⟩ := hv
  obtain ⟨fuel, hf⟩ := h
  obtain ⟨xs, m, _, hx, hlen, hxl, hg⟩ := DataW.trod_array Try.underlying57 hf
  rw [cells57] at hlen
  obtain ⟨l⟩ := cs
  have hl : l.length = 4 := by simpa [Value.cells] using hlen
  match l, hl, xs, hxl with
  | [c0, c1, c2, c3], _, [y0, y1, y2, y3], _ =>
    have f0 : DataW.trod enc Try.prog w 0 sp held m 55 [c0] = some y0 := by simpa [cells55, Value.cells] using hg 0 (by omega)
    have f1 : DataW.trod enc Try.prog w 0 sp held m 55 [c1] = some y1 := by simpa [cells55, Value.cells] using hg 1 (by omega)
    have f2 : DataW.trod enc Try.prog w 0 sp held m 55 [c2] = some y2 := by simpa [cells55, Value.cells] using hg 2 (by omega)
    have f3 : DataW.trod enc Try.prog w 0 sp held m 55 [c3] = some y3 := by simpa [cells55, Value.cells] using hg 3 (by omega)
    obtain ⟨a, e0, _, w0⟩ := DataW.trod_int Try.underlying55 f0
    obtain ⟨b, e1, _, w1⟩ := DataW.trod_int Try.underlying55 f1
    obtain ⟨c, e2, _, w2⟩ := DataW.trod_int Try.underlying55 f2
    obtain ⟨e, e3, _, w3⟩ := DataW.trod_int Try.underlying55 f3
    simp only [List.cons.injEq, and_true] at e0 e1 e2 e3
    subst e0; subst e1; subst e2; subst e3
    exact ⟨a, b, c, e, rfl, wf_u64 w0, wf_u64 w1, wf_u64 w2, wf_u64 w3⟩
end
set_option maxRecDepth 100000 in
/-- The arguments read as they did. -/
theorem args_stay {H : Type} {enc : TypeId × Value → H} {W W' : World} (hb : Below W.heap.size W W') {sp : Nat → Bool} : ∀ (ts : List TypeId) (vs : List Value) (ds : List (DataW H)) (p : List MemPlace),
    (∀ t ∈ ts, Try.prog.readableRec t = true ∧ t < Try.prog.types.size) → DataW.TrodAll enc Try.prog W 0 (fun _ => true) true ts vs ds p → (∀ x ∈ p, x.block < W.heap.size) → (∀ x ∈ p, sp x.block = true) →
    DataW.TrodAll enc Try.prog W' 0 sp true ts vs ds p
  | [], vs, ds, p, _, h, _, _ => by
    obtain ⟨rfl, rfl, rfl⟩ := trodAll_nil h
    exact trodAll_mk0
  | t :: ts, vs, ds, p, ht, h, hlt, hsp => by
    obtain ⟨v0, vs0, d0, ds0, p0, q0, rfl, rfl, rfl, h0, r0⟩ := trodAll_cons h
    have ht0 := ht t (by simp)
    exact trodAll_cons_mk (WideElems.Trod_stays laidOut ht0.1 ht0.2 h0 (fun x hx => hb.same (hlt x (by simp [hx]))) (fun x hx => hsp x (by simp [hx])))
      (args_stay hb ts vs0 ds0 q0 (fun t' h' => ht t' (by simp [h'])) r0 (fun x hx => hlt x (by simp [hx])) (fun x hx => hsp x (by simp [hx])))
set_option maxRecDepth 100000 in
/-- A law's row behind a walk that answers true and only makes new blocks. -/
theorem law_post {H : Type} {enc : TypeId × Value → H} {f : Func} {s : ChangeSpec} {W W' : World} {args : Array Value} {ds gs : List (DataW H)} {before : List MemPlace}
    (hp : ∀ t ∈ f.params.toList, Try.prog.readableRec t = true ∧ t < Try.prog.types.size) (hr : f.resultTypes = #[4]) (hvs : s.vars = [])
    (hfn : s.fn H (ds ++ gs) = { results := [.lit (.bool true)], args := ds })
    (hW : DataW.Whole enc Try.prog f.params.toList s.vars false W args.toList ds gs before) (hb : Below W.heap.size W W') :
    s.post enc Try.prog f false true false false W args (.bool true) W' := by
  have hW' := hW
  obtain ⟨p, q, hA, hV, hpq, hz, hn⟩ := hW'
  rw [hvs] at hV
  obtain ⟨rfl, rfl⟩ := trodVars_none hV
  rw [List.append_nil] at hpq
  subst hpq
  have hlt : ∀ x ∈ before, x.block < W.heap.size := fun x hx => hW.lt x hx
  have hold : ∀ x ∈ before, (fun b => decide (b < W.heap.size)) x.block = true := fun x hx => by simpa using hlt x hx
  have hargs : ∀ sp : Nat → Bool, (∀ x ∈ before, sp x.block = true) → DataW.TrodAll enc Try.prog W' 0 sp true f.params.toList args.toList (s.fn H (ds ++ [])).args before := fun sp hsp => by
    rw [hfn]
    exact args_stay hb _ _ _ _ hp hA hlt hsp
  have hres : ∀ (b : Nat) (sp : Nat → Bool) (hd : Bool), DataW.TrodAll enc Try.prog W' b sp hd f.resultTypes.toList ((Value.bool true).resultList f.resultTypes.size) (s.fn H (ds ++ [])).results [] := fun b sp hd => by
    rw [hfn, hr]
    exact trodAll_cons_mk (shut_bool Try.underlying4 _) trodAll_mk0
  have hvars : ∀ sp : Nat → Bool, DataW.TrodVars enc Try.prog W' sp s.vars (s.fn H (ds ++ [])).vars [] := fun sp => by
    rw [hfn, hvs]; rfl
  refine ⟨ds, [], before, [], before, [], hW, hres _ _ _, hargs _ hold, hvars _, World.keptBut_mono (fun x hx => ⟨hx, Or.inr (by simpa using hx)⟩) (hb.frame (· ∈ before)), fun _ => ?_⟩
  refine ⟨ok_one hr rfl (okWide_bool_mk Try.underlying4 _), _, _, ([] ++ before) ++ [], ⟨[] ++ before, [], trodAll_append (hargs _ (fun _ _ => rfl)) (hres _ _ _), hvars _, rfl, ?_, ?_⟩, ?_⟩
  · intro b off hx
    have hin : MemPlace.cell b off ∈ before := by simpa using hx
    rw [hb.frozen (hlt _ hin)]
    exact hz b off hin
  · intro ha; cases ha
  · intro x hx _
    simpa using hx
end Go.Proofs.Ytkdpphcalekbdaa.O
