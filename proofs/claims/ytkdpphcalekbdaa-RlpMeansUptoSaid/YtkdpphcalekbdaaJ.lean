/- Facts about blocks and about an item under construction, as the walks of the functions that build items want them. -/
import Derived.Test.YtkdpphcalekbdaaI
import Derived.Deep.AppendLies
set_option linter.unusedVariables false
set_option linter.unusedSimpArgs false
namespace Go.Proofs.Ytkdpphcalekbdaa.M
open Go.RowKit
theorem info5 : (Try.prog.info? 5).map (fun i => (i.zero, i.size, i.bytes)) = some (some (.int .u8 0), 1, 1) := by kernel_rfl
theorem own_empty (W : World) (base : Nat) (hb : base ≤ W.heap.size) : (W.alloc (.cells #[] 5)).ownsRow base 5 1 (.slice (some ⟨W.heap.size, 0, none⟩) 0 0) 0 [] := by
  have := World.ownsRow_lit (base := base) (e := 5) (size := 1) W #[] 0 hb (by decide) (by simp)
  simpa using this
theorem heap_alloc (w : World) (o : Obj) (k : Nat) : (w.alloc o).heap[k]? = if k = w.heap.size then some o else w.heap[k]? := Array.getElem?_push
theorem size_alloc (w : World) (o : Obj) : (w.alloc o).heap.size = w.heap.size + 1 := Array.size_push _
theorem heap_set (w : World) (g i : Nat) (v : Value) (k : Nat) (h : g ≠ k) : (w.setCell ⟨g, i, none⟩ v).heap[k]? = w.heap[k]? := by simp [World.setCell, Array.getElem?_modify, h]
theorem heap_drew (w : World) : w.drew.heap = w.heap := rfl
theorem heap_drewN (w : World) (n : Nat) : (w.drewN n).heap = w.heap := rfl
theorem kb_after (w' : World) (B : Nat) (l : Int) (bv : Value) (bs : List UInt8) (h : Bs w' B w'.heap.size bv bs) (hB : B ≤ w'.heap.size) :
    Kb B (w'.alloc (.cells #[.int .i64 l, bv, .slice none 0 0] 27)) w'.heap.size l bv (.slice none 0 0) bs [] := by
  refine Kb.start _ _ _ _ _ _ (by rw [heap_alloc, if_pos rfl]) hB (((h.keep (w' := w'.alloc (.cells #[.int .i64 l, bv, .slice none 0 0] 27)) (fun k h1 h2 => Below.heap_alloc _ _ _ h2))).toS fun b h1 h2 => ⟨h1, by simp; omega, by omega⟩)
theorem kb_ahead (w' : World) (B g : Nat) (l : Int) (bv : Value) (bs : List UInt8) (h : Bs w' (g + 1) w'.heap.size bv bs) (hB : B ≤ g) (hg : w'.heap[g]? = some (.cells #[.int .i64 0, .slice none 0 0, .slice none 0 0] 27 (0, 0))) :
    Kb B (((w'.setCell ⟨g, 0, none⟩ (.int .i64 l)).setCell ⟨g, 1, none⟩ bv).setCell ⟨g, 2, none⟩ (.slice none 0 0)) g l bv (.slice none 0 0) bs [] := by
  have hlt := (Array.getElem?_eq_some_iff.1 hg).1
  refine Kb.start _ _ _ _ _ _ ?_ hB ((h.keep (w' := ((w'.setCell ⟨g, 0, none⟩ (.int .i64 l)).setCell ⟨g, 1, none⟩ bv).setCell ⟨g, 2, none⟩ (.slice none 0 0)) (fun k h1 h2 => ?_)).toS fun b h1 h2 => ⟨by omega, by simpa [World.setCell] using h2, by omega⟩)
  · simp [World.setCell, Array.getElem?_modify, hg]
  · have : g ≠ k := by omega
    simp [World.setCell, Array.getElem?_modify, this]
theorem kb_shape {base g : Nat} {W : World} {l : Int} {bv kv : Value} {bs : List UInt8} {ks : List It} (h : Kb base W g l bv kv bs ks) :
    (∃ A c, bv = .slice A bs.length c) ∧ (∃ A c, kv = .slice A ks.length c) := by
  obtain ⟨A, c, e, _⟩ := h.bytes
  refine ⟨⟨A, c, e⟩, ?_⟩
  obtain ⟨inner, ho, _⟩ := h.own
  rcases ho.2 with ⟨hv, h0⟩ | ⟨b, cap, cur, hv, _⟩
  · exact ⟨none, 0, by rw [hv, h0]⟩
  · exact ⟨_, _, hv⟩
theorem block_cells {W : World} {g : Nat} {a b c : Value} {t : TypeId} (h : W.heap[g]? = some (.cells #[a, b, c] t (0, 0))) :
    W.cell? ⟨g, 0, none⟩ = some a ∧ W.cell? ⟨g, 1, none⟩ = some b ∧ W.cell? ⟨g, 2, none⟩ = some c ∧ ∀ o, W.frozen? ⟨g, o, none⟩ = false := by
  refine ⟨?_, ?_, ?_, fun o => ?_⟩
  · simp [World.cell?, h]
  · simp [World.cell?, h]
  · simp [World.cell?, h]
  · simp [World.frozen?, h]
theorem item_shape {W : World} {S : Nat → Prop} {x : It} {f0 f1 f2 : Value} (h : ItemR W S x [f0, f1, f2]) :
    (∃ l, f0 = .int .i64 l) ∧ (∃ A n c, f1 = .slice A n c) ∧ (∃ A n c, f2 = .slice A n c) := by
  cases x with
  | mk l bs ks =>
    simp only [ItemR] at h
    obtain ⟨v, A, c, inner, e, ⟨A', c', rfl, _⟩, _⟩ := h
    simp only [List.cons.injEq, and_true] at e
    obtain ⟨rfl, rfl, rfl⟩ := e
    exact ⟨⟨_, rfl⟩, ⟨_, _, _, rfl⟩, ⟨_, _, _, rfl⟩⟩
theorem Kb.grow {base g : Nat} {W w1 w2 : World} {l : Int} {bv kv : Value} {bs : List UInt8} {ks : List It} (h : Kb base W g l bv kv bs ks) (hb1 : Below W.heap.size W w1) {k : It} {cs : List Value} (hk : ItemR w1 (Btw W.heap.size w1.heap.size) k cs)
    {n : Nat} (hn : ks.length = n) {inner : List Value} (ho : W.ownsRow base 27 3 kv n inner) (hkk : KidsR W (Free base W g kv) ks inner) {gn cap : Nat} {o : Obj}
    (hown : w2.ownsRow base 27 3 (.slice (some ⟨gn, 0, none⟩) (n + 1) cap) (n + 1) (inner ++ cs)) (hgrow : (w1.alloc o).grownBy w2 kv.ownBlock) (hat : kv.ownBlock = some gn ∨ gn = (w1.alloc o).heap.size) :
    Kb base (w2.setCell ⟨g, 2, none⟩ (.slice (some ⟨gn, 0, none⟩) (n + 1) cap)) g l bv (.slice (some ⟨gn, 0, none⟩) (n + 1) cap) bs (ks ++ [k]) := by
  subst hn
  refine h.append hb1 hk (own_keep ho fun k hk' => hb1.block k (ho.lt k hk').2) hown o hgrow ?_ ?_
  · rcases hat with e | e
    · exact .inl (by rw [e]; rfl)
    · exact .inr (by rw [← e]; rfl)
  · have hf : ∀ b, Free base W g kv b → Free base w1 g kv b := fun b ⟨h1, h2, h3, h4⟩ => ⟨h1, Nat.lt_of_lt_of_le h2 hb1.size, h3, h4⟩
    exact KidsR.wide hf _ _ (KidsR.keep (fun b hb' => hb1.block b hb'.2.1) _ _ hkk)
theorem Kb.row {base g : Nat} {W : World} {l : Int} {bv kv : Value} {bs : List UInt8} {ks : List It} (h : Kb base W g l bv kv bs ks) {n : Nat} (hn : ks.length = n) :
    ∃ inner, W.ownsRow base 27 3 kv n inner ∧ KidsR W (Free base W g kv) ks inner := by subst hn; exact h.own
theorem grown_cells {w1 w2 : World} {o : Obj} {r : Option Nat} (h : (w1.alloc o).grownBy w2 r) {b i : Nat} {v : Value} (hb : b < w1.heap.size) (hr : r ≠ some b) (hc : w1.cell? ⟨b, i, none⟩ = some v) : w2.cell? ⟨b, i, none⟩ = some v :=
  (World.cell?_of_block (w := w1) (a := ⟨b, i, none⟩) ((h.block b (by rw [size_alloc]; omega) (fun e => hr e.symm)).trans (Below.heap_alloc _ _ _ hb))).trans hc
theorem grown_frozen {w1 w2 : World} {o : Obj} {r : Option Nat} (h : (w1.alloc o).grownBy w2 r) {b i : Nat} {v : Bool} (hb : b < w1.heap.size) (hr : r ≠ some b) (hc : w1.frozen? ⟨b, i, none⟩ = v) : w2.frozen? ⟨b, i, none⟩ = v :=
  (World.frozen?_of_block (w := w1) (a := ⟨b, i, none⟩) ((h.block b (by rw [size_alloc]; omega) (fun e => hr e.symm)).trans (Below.heap_alloc _ _ _ hb))).trans hc
theorem grown_block {w1 w2 : World} {o : Obj} {r : Option Nat} (h : (w1.alloc o).grownBy w2 r) {b : Nat} {v : Option Obj} (hb : b < w1.heap.size) (hr : r ≠ some b) (hc : w1.heap[b]? = v) : w2.heap[b]? = v :=
  ((h.block b (by rw [size_alloc]; omega) (fun e => hr e.symm)).trans (Below.heap_alloc _ _ _ hb)).trans hc
theorem new3 (w1 : World) (a b c : Value) (t : TypeId) : ∀ j u, [a, b, c][j]? = some u → (w1.alloc (.cells #[a, b, c] t)).cell? ((⟨w1.heap.size, 0, none⟩ : Addr).add j) = some u := by
  intro j u hu
  match j, hu with
  | 0, hu => simp at hu; subst hu; simp [go_sem, Addr.add]
  | 1, hu => simp at hu; subst hu; simp [go_sem, Addr.add]
  | 2, hu => simp at hu; subst hu; simp [go_sem, Addr.add]
  | j + 3, hu => simp at hu
theorem info27 : (Try.prog.info? 27).map (fun i => (i.zero, i.size, i.bytes)) = some (some (.agg #[.int .i64 0, .slice none 0 0, .slice none 0 0]), 3, 56) := by kernel_rfl
theorem ty27 : ∃ i : TypeInfo, Try.prog.info? 27 = some i ∧ i.zero = some (.agg #[.int .i64 0, .slice none 0 0, .slice none 0 0]) ∧ i.size = 3 ∧ i.bytes = 56 := by
  obtain ⟨i, hi, hz⟩ := Option.map_eq_some_iff.1 info27
  simp only [Prod.mk.injEq] at hz
  exact ⟨i, hi, hz⟩
theorem undrew {B : Nat} {w w1 : World} (h : Below B w.drew w1) : Below B w w1 := ((Below.refl B w).drew).trans h
section
variable {P : Program}
/-- append(v, ys...) in a region that draws: ys a slice that is read, nil let in. -/
theorem step_append_any (w : World) {ops : Array Oper} {o : Oper} {a : Act} {K : Act → World → Prop} {Q : Exit → Act → World → Prop} {E : Prop} (hgd : o.guard = none) (s x : Operand) (t e : TypeId) (z : Value) (size bytes : Nat)
    (ho : o.op = .call { callee := .builtin .append, args := #[s, x], argTypes := #[t, t] })
    (ht : P.underlying t = some (.slice e)) (hinfo : (P.info? e).map (fun i => (i.zero, i.size, i.bytes)) = some (some z, size, bytes)) (hz : z.cells.size = size) (hs0 : 0 < size)
    (base lo hi : Nat) (v : Value) (n : Nat) (xs : List Value) (A : Option Addr) (m c : Nat) (ys : List Value) (hs : a.eval s = v) (hx : a.eval x = .slice A m c)
    (HO : w.ownsRow base e size v n xs) (HR : Rd w lo hi size A m ys) (h1 : ∀ u ∈ ys, u.oneCell' = true) (h63 : n + m ≤ maxLen) (hl : (n + m) * bytes ≤ 140737488355328) (hbase : base ≤ w.heap.size)
    (h : ∀ v' w', w'.ownsRow base e size v' (n + m) (xs ++ ys) → w.grownBy w' v.ownBlock → (v'.ownBlock = v.ownBlock ∨ v'.ownBlock = some w.heap.size) → K (a.put o.dst v') w') :
    if Region.wanted o (yielded ops a.tmps) = true then Oper.wp P o a w K Q else E := by
  have hw : Region.wanted o (yielded ops a.tmps) = true := by simp [Region.wanted, hgd]
  obtain ⟨i0, hi0, hzz⟩ := Option.map_eq_some_iff.1 hinfo
  simp only [Prod.mk.injEq] at hzz
  obtain ⟨hz0, hz1, hz2⟩ := hzz
  rcases Nat.eq_zero_or_pos m with h0 | h0
  · subst h0
    have hys : ys = [] := List.eq_nil_of_length_eq_zero (by simpa using HR.1)
    subst hys
    have hrun : (Builtin.append_ #[t, t] o.type #[v, .slice A 0 c]).run P w = .ok v w := by
      rcases HO.2 with ⟨rfl, hn⟩ | ⟨g, cap, cur, rfl, _, _, hnc, _⟩
      · cases A <;> simp [Builtin.append_, run_underlying ht, sizeOf, typeInfo, hi0, Builtin.lenOf, Builtin.firstCells, loadCells, loadCellsFrom]
      · cases A <;> simp [Builtin.append_, run_underlying ht, sizeOf, typeInfo, hi0, Builtin.lenOf, Builtin.firstCells, hnc, storeCells, loadCells, loadCellsFrom]
    rw [if_pos hw]
    unfold Oper.wp execOp
    simp only [ho, resolve, invoke, builtin, Sem.run_bind, Sem.run_pure, Result.andThen_ok, List.map_toArray, List.map_cons, List.map_nil, hs, hx, hrun]
    exact h v w (by simpa using HO) ⟨rfl, rfl, rfl, Nat.le_refl _, fun _ _ _ => rfl⟩ (.inl rfl)
  · obtain ⟨g, off, rfl, _, _, hc⟩ := HR.2 h0
    refine step_append_lies w hgd s x t ho base e i0 z size bytes ht hi0 hz0 hz1 hz2 hz hs0 v n xs hs HO ⟨g, off, none⟩ m c ys hx HR.1 (fun j u hu => ?_) h1 h0 h63 hl hbase _ rfl (fun g' cap w' a1 a2 a3 _ => h _ w' a1 a2 ?_)
    · have := hc j u hu
      unfold Addr.add
      split
      · rename_i hj; subst hj; simpa using this
      · simpa using this
    · rcases a3 with a3 | a3
      · exact .inl (by rw [a3]; rfl)
      · exact .inr (by rw [← a3]; rfl)
end
theorem kb_set (w' : World) (B g : Nat) (l : Int) (bv : Value) (bs : List UInt8) (h : BsS w' (fun b => B ≤ b ∧ b < w'.heap.size ∧ b ≠ g) bv bs) (hB : B ≤ g) (hg : w'.heap[g]? = some (.cells #[.int .i64 0, .slice none 0 0, .slice none 0 0] 27 (0, 0))) :
    Kb B (((w'.setCell ⟨g, 0, none⟩ (.int .i64 l)).setCell ⟨g, 1, none⟩ bv).setCell ⟨g, 2, none⟩ (.slice none 0 0)) g l bv (.slice none 0 0) bs [] := by
  have hlt := (Array.getElem?_eq_some_iff.1 hg).1
  refine Kb.start _ _ _ _ _ _ ?_ hB ((h.keep (w' := ((w'.setCell ⟨g, 0, none⟩ (.int .i64 l)).setCell ⟨g, 1, none⟩ bv).setCell ⟨g, 2, none⟩ (.slice none 0 0)) (fun k hk => ?_)).wide fun b hb => ⟨hb.1, by simpa [World.setCell] using hb.2.1, hb.2.2⟩)
  · simp [World.setCell, Array.getElem?_modify, hg]
  · have : g ≠ k := fun e => hk.2.2 e.symm
    simp [World.setCell, Array.getElem?_modify, this]
/-- Where an own row of bytes lies. -/
theorem own_bsS {W : World} {base g : Nat} {v : Value} {bs : List UInt8} (h : Own W base v bs) (hg : v.ownBlock ≠ some g) : BsS W (fun b => base ≤ b ∧ b < W.heap.size ∧ b ≠ g) v bs := by
  obtain ⟨A, c, rfl, h1, h2, hR⟩ := h.bs
  refine ⟨A, c, rfl, h1, h2, hR.1, fun hn => ?_⟩
  obtain ⟨b, off, e, b1, b2, hc⟩ := hR.2 hn
  refine ⟨b, off, e, ⟨b1, b2, fun e' => hg ?_⟩, hc⟩
  rcases h.2 with ⟨hv, h0⟩ | ⟨g', cap, cur, hv, _⟩
  · rw [h0] at hn; exact absurd hn (by simp)
  · injection hv with hA
    rw [hA] at e ⊢
    injection e with e; injection e with e1
    show some g' = some g
    rw [e1, e']

/-- A node: list, bytes, many. -/
abbrev Nd := Int × List UInt8 × Int
def nodesR (w : World) (S : Nat → Prop) : List Nd → List Value → Prop
  | [], cs => cs = []
  | n :: ns, cs => ∃ v rest, cs = [.int .i64 n.1, v, .int .i64 n.2.2] ++ rest ∧ BsS w S v n.2.1 ∧ nodesR w S ns rest
/-- A slice of nodes. -/
def Nds (w : World) (S : Nat → Prop) (v : Value) (ns : List Nd) : Prop :=
  ∃ A c inner, v = .slice A ns.length c ∧ ns.length ≤ c ∧ c ≤ 9223372036854775807 ∧ RdS w S 3 A ns.length inner ∧ nodesR w S ns inner
theorem nodesR.keep {w w' : World} {S : Nat → Prop} (hs : SameS S w w') : ∀ {ns : List Nd} {cs : List Value}, nodesR w S ns cs → nodesR w' S ns cs
  | [], cs, h => h
  | n :: ns, cs, h => by
    obtain ⟨v, rest, e, hb, hr⟩ := h
    exact ⟨v, rest, e, hb.keep hs, hr.keep hs⟩
theorem nodesR.length {w : World} {S : Nat → Prop} : ∀ {ns : List Nd} {cs : List Value}, nodesR w S ns cs → cs.length = ns.length * 3
  | [], cs, h => by cases h; rfl
  | n :: ns, cs, h => by
    obtain ⟨v, rest, rfl, hb, hr⟩ := h
    simp [hr.length]; omega
theorem Nds.keep {w w' : World} {S : Nat → Prop} {v : Value} {ns : List Nd} (h : Nds w S v ns) (hs : SameS S w w') : Nds w' S v ns := by
  obtain ⟨A, c, inner, e, h1, h2, hr, hn⟩ := h
  exact ⟨A, c, inner, e, h1, h2, hr.keep hs, hn.keep hs⟩
end Go.Proofs.Ytkdpphcalekbdaa.M
