/- The words for memory: what a slice reads as; how these facts outlive new blocks and stores elsewhere. (printed by gen_d1.py) -/
import Derived.Test.YtnlcndlfdnogaaaRows
import Derived.Test.YtnlcndlfdnogaaaD0
import Derived.WalkKit
import Derived.ProofKit
import Derived.OpenShut
import Derived.JoinedCond
import Derived.WalkLawsBesides
import Derived.WalkSpells
import Derived.Maps.AppendAt
import Derived.Lib.Hide
import Derived.Handy
import Derived.Outline
import Derived.Laws.CopyOwn
import Derived.Deep.WholeRow
set_option linter.unusedVariables false
set_option linter.unusedSimpArgs false
namespace Go.Proofs.Ytnlcndlfdnogaaa.M
open Go.RowKit D0

abbrev Byte := BitVec 8
@[go_sem] theorem cell_set_same (w : World) (g i : Nat) (v : Value) (h : (w.cell? ⟨g, i, none⟩).isSome = true) : (w.setCell ⟨g, i, none⟩ v).cell? ⟨g, i, none⟩ = some v := by
  unfold World.cell? at h ⊢
  cases hb : w.heap[g]? with
  | none => simp [hb] at h
  | some o =>
    cases o <;> simp [hb] at h
    rename_i c e fr
    simp [World.setCell, Array.getElem?_modify, hb, Array.getElem?_setIfInBounds, h]
@[go_sem] theorem drewN_setCell (W : World) (n : Nat) (a : Addr) (v : Value) : (W.drewN n).setCell a v = (W.setCell a v).drewN n := rfl
/-- Blocks lo to hi hold what they held. -/
def Same (lo hi : Nat) (w w' : World) : Prop := ∀ k, lo ≤ k → k < hi → w'.heap[k]? = w.heap[k]?
theorem Same.refl (lo hi : Nat) (w : World) : Same lo hi w w := fun _ _ _ => rfl
theorem Same.trans {lo hi : Nat} {a b c : World} (h : Same lo hi a b) (k : Same lo hi b c) : Same lo hi a c := fun i h1 h2 => (k i h1 h2).trans (h i h1 h2)
theorem Same.sub {lo hi lo' hi' : Nat} {a b : World} (h : Same lo hi a b) (h1 : lo ≤ lo') (h2 : hi' ≤ hi) : Same lo' hi' a b := fun i a1 a2 => h i (by omega) (by omega)
theorem Same.of_below {B lo hi : Nat} {w w' : World} (h : Below B w w') (hi' : hi ≤ B) : Same lo hi w w' := fun k _ h2 => h.block k (by omega)

/-- What a call leaves of the blocks that lay before it: laid into the walk's context. -/
theorem bcell {W w1 : World} (hb : Below W.heap.size W w1) : (∀ b o, b < W.heap.size → w1.cell? ⟨b, o, none⟩ = W.cell? ⟨b, o, none⟩) ∧ (∀ b o, b < W.heap.size → w1.frozen? ⟨b, o, none⟩ = W.frozen? ⟨b, o, none⟩) :=
  ⟨fun b o h => hb.cell (p := ⟨b, o, none⟩) h, fun b o h => hb.frozen (p := ⟨b, o, none⟩) h⟩
/-- An array stored whole into a variable that has just been laid. -/
theorem store_new {P : Program} (t : TypeId) (n : Nat) (l : List Value) (hi : (P.info? t).map (·.size) = some n) (hl : l.length = n) (h1 : ∀ u ∈ l, u.oneCell' = true) :
    ∀ (W : World) (c : Array Value), c.size = n → (storeCells ⟨W.heap.size, 0, none⟩ l).run P (W.alloc (.cells c t)) = .ok () (W.alloc (.cells l.toArray t)) := by
  intro W c hc
  have := run_storeCells_new (P := P) W t c l.toArray (by rw [hi]; simp [hl]) (by simp [hc, hl]) (by simpa [Array.all_eq_true_iff_forall_mem] using h1)
  simpa using this

/-- A slice's cells, in blocks lo to hi. -/
def Rd (w : World) (lo hi size : Nat) (A : Option Addr) (n : Nat) (xs : List Value) : Prop :=
  xs.length = n * size ∧ (0 < n → ∃ g off, A = some ⟨g, off, none⟩ ∧ lo ≤ g ∧ g < hi ∧ ∀ j u, xs[j]? = some u → w.cell? ⟨g, off + j, none⟩ = some u)

section
variable {w w' : World} {lo hi lo' hi' size n : Nat} {A : Option Addr} {xs : List Value}
theorem Rd.nil (w : World) (lo hi size : Nat) (A : Option Addr) : Rd w lo hi size A 0 [] := ⟨by simp, fun h => absurd h (by omega)⟩
theorem Rd.keep (h : Rd w lo hi size A n xs) (hs : Same lo hi w w') : Rd w' lo hi size A n xs :=
  ⟨h.1, fun hn => by
    obtain ⟨g, off, e, h1, h2, hc⟩ := h.2 hn
    exact ⟨g, off, e, h1, h2, fun j u hu => (World.cell?_of_block (w := w) (hs g h1 h2)).trans (hc j u hu)⟩⟩
theorem Rd.wide (h : Rd w lo hi size A n xs) (h1 : lo' ≤ lo) (h2 : hi ≤ hi') : Rd w lo' hi' size A n xs :=
  ⟨h.1, fun hn => by
    obtain ⟨g, off, e, a1, a2, hc⟩ := h.2 hn
    exact ⟨g, off, e, by omega, by omega, hc⟩⟩
theorem Rd.at_ (h : Rd w lo hi 1 A n xs) {k : Nat} (hk : k < n) : ∃ g off, A = some ⟨g, off, none⟩ ∧ lo ≤ g ∧ g < hi ∧ w.cell? ⟨g, off + k, none⟩ = some (xs[k]'(by have := h.1; omega)) := by
  obtain ⟨g, off, e, h1, h2, hc⟩ := h.2 (by omega)
  exact ⟨g, off, e, h1, h2, hc k _ (List.getElem?_eq_getElem _)⟩
theorem Rd.of_own {base : Nat} {e : TypeId} {c : Nat} (h : w.ownsRow base e size (.slice A n c) n xs) : Rd w base w.heap.size size A n xs := by
  refine ⟨h.1, fun hn => ?_⟩
  rcases h.2 with ⟨hv, h0⟩ | ⟨g, cap, cur, hv, hb, hg, hnc, hcm, hcs, htake⟩
  · injection hv with _ h1; omega
  · have hA : A = some ⟨g, 0, none⟩ := by injection hv
    subst hA
    refine ⟨g, 0, rfl, hb, (Array.getElem?_eq_some_iff.1 hg).1, fun j u hu => ?_⟩
    have := h.cells (g := g) rfl j u hu
    unfold Addr.add at this
    split at this
    · rename_i h0; subst h0; simpa using this
    · simpa using this
end

theorem grown_same {lo hi : Nat} {w w' : World} {row : Option Nat} (hg : w.grownBy w' row) (hhi : hi ≤ w.heap.size) (hr : ∀ k, row = some k → k < lo ∨ hi ≤ k) : Same lo hi w w' :=
  fun k h1 h2 => hg.block k (by omega) (fun e => by have := hr k e.symm; omega)
/-- A row of the call's own lives on where its block is as it was. -/
theorem own_keep {w w' : World} {base : Nat} {e : TypeId} {size n : Nat} {v : Value} {xs : List Value} (h : w.ownsRow base e size v n xs) (hs : ∀ k, v.ownBlock = some k → w'.heap[k]? = w.heap[k]?) : w'.ownsRow base e size v n xs := by
  obtain ⟨h1, h2⟩ := h
  refine ⟨h1, ?_⟩
  rcases h2 with h2 | ⟨g, cap, cur, rfl, hb, hg, r⟩
  · exact .inl h2
  · exact .inr ⟨g, cap, cur, rfl, hb, (hs g rfl).trans hg, r⟩
theorem own_low {w : World} {base base' : Nat} {e : TypeId} {size n : Nat} {v : Value} {xs : List Value} (h : w.ownsRow base e size v n xs) (hb : base' ≤ base) : w.ownsRow base' e size v n xs := by
  obtain ⟨h1, h2⟩ := h
  refine ⟨h1, ?_⟩
  rcases h2 with h2 | ⟨g, cap, cur, rfl, hg, r⟩
  · exact .inl h2
  · exact .inr ⟨g, cap, cur, rfl, by omega, r⟩

section
variable {P : Program} {ops : Array Oper} {rest : List Oper} {o : Oper} {a : Act} {Q : Exit → Act → World → Prop} {w : World}
/-- append(v, ys...): ys a slice that is read, nil let in. -/
theorem wp_append (hgd : o.guard = none) (s x : Operand) (t e : TypeId) (z : Value) (size bytes : Nat)
    (ho : o.op = .call { callee := .builtin .append, args := #[s, x], argTypes := #[t, t] })
    (ht : P.underlying t = some (.slice e)) (hinfo : (P.info? e).map (fun i => (i.zero, i.size, i.bytes)) = some (some z, size, bytes)) (hz : z.cells.size = size) (hs0 : 0 < size)
    (base lo hi : Nat) (v : Value) (n : Nat) (xs : List Value) (A : Option Addr) (m c : Nat) (ys : List Value) (hs : a.eval s = v) (hx : a.eval x = .slice A m c)
    (HO : w.ownsRow base e size v n xs) (HR : Rd w lo hi size A m ys) (h1 : ∀ u ∈ ys, u.oneCell' = true) (h63 : n + m ≤ maxLen) (hl : (n + m) * bytes ≤ 140737488355328) (hbase : base ≤ w.heap.size)
    (h : ∀ v' w', w'.ownsRow base e size v' (n + m) (xs ++ ys) → w.grownBy w' v.ownBlock → (v'.ownBlock = v.ownBlock ∨ v'.ownBlock = some w.heap.size) → wpList P ops Q rest (a.put o.dst v') w') :
    wpList P ops Q (o :: rest) a w := by
  obtain ⟨i0, hi0, hzz⟩ := Option.map_eq_some_iff.1 hinfo
  simp only [Prod.mk.injEq] at hzz
  obtain ⟨hz0, hz1, hz2⟩ := hzz
  rcases Nat.eq_zero_or_pos m with h0 | h0
  · subst h0
    have hys : ys = [] := List.eq_nil_of_length_eq_zero (by simpa using HR.1)
    subst hys
    have hrun : (Builtin.append_ #[t, t] o.type #[v, .slice A 0 c]).run P w = .ok v w := by
      rcases HO.2 with ⟨rfl, hn⟩ | ⟨g, cap, cur, rfl, _, _, hnc, _⟩
      · cases A <;> simp [Builtin.append_, run_underlying ht, sizeOf, typeInfo, hi0, Builtin.lenOf, Builtin.firstCells, loadCells, loadCellsFrom]
      · cases A <;> simp [Builtin.append_, run_underlying ht, sizeOf, typeInfo, hi0, Builtin.lenOf, Builtin.firstCells, hnc, storeCells, loadCells, loadCellsFrom]
    refine wpList_plain hgd fun K hK => ?_
    unfold Oper.wp execOp
    simp only [ho, resolve, invoke, builtin, Sem.run_bind, Sem.run_pure, Result.andThen_ok, List.map_toArray, List.map_cons, List.map_nil, hs, hx, hrun]
    exact hK _ _ (h v w (by simpa using HO) ⟨rfl, rfl, rfl, Nat.le_refl _, fun _ _ _ => rfl⟩ (.inl rfl))
  · obtain ⟨g, off, rfl, _, _, hc⟩ := HR.2 h0
    refine wpList_append_own_at w hgd s x t ho base e i0 z size bytes ht hi0 hz0 hz1 hz2 hz hs0 v n xs hs HO ⟨g, off, none⟩ m c ys hx HR.1 (fun j u hu => ?_) h1 h63 hl hbase (fun v' w' a1 a2 _ a4 => h v' w' a1 a2 a4)
    have := hc j u hu
    unfold Addr.add
    split
    · rename_i hj; subst hj; simpa using this
    · simpa using this
end

/-- Bytes as the cells hold them. -/
def nums (bs : List Byte) : List Value := bs.map fun b => .int .u8 (n8 b)
@[simp] theorem nums_length (bs : List Byte) : (nums bs).length = bs.length := by simp [nums]
@[simp] theorem nums_append (a b : List Byte) : nums (a ++ b) = nums a ++ nums b := by simp [nums]
theorem nums_get (bs : List Byte) (j : Nat) (h : j < bs.length) : (nums bs)[j]? = some (.int .u8 (n8 (bs[j]'h))) := by simp [nums, List.getElem?_eq_getElem h]

/-- A slice of bytes that reads as bs. -/
def Bs (w : World) (lo hi : Nat) (v : Value) (bs : List Byte) : Prop :=
  ∃ A c, v = .slice A bs.length c ∧ bs.length ≤ c ∧ c ≤ 9223372036854775807 ∧ Rd w lo hi 1 A bs.length (nums bs)

section
variable {w w' : World} {lo hi lo' hi' : Nat} {v : Value} {bs : List Byte}
theorem Bs.keep (h : Bs w lo hi v bs) (hs : Same lo hi w w') : Bs w' lo hi v bs := by
  obtain ⟨A, c, e, h1, h2, h3⟩ := h
  exact ⟨A, c, e, h1, h2, h3.keep hs⟩
theorem Bs.wide (h : Bs w lo hi v bs) (h1 : lo' ≤ lo) (h2 : hi ≤ hi') : Bs w lo' hi' v bs := by
  obtain ⟨A, c, e, a1, a2, h3⟩ := h
  exact ⟨A, c, e, a1, a2, h3.wide h1 h2⟩
end

theorem nums_one (bs : List Byte) : ∀ u ∈ nums bs, u.oneCell' = true := by
  intro u hu
  simp only [nums, List.mem_map] at hu
  obtain ⟨b, _, rfl⟩ := hu
  rfl
/-- A slice of bytes of the call's own. -/
def Own (w : World) (base : Nat) (v : Value) (bs : List Byte) : Prop := w.ownsRow base 5 1 v bs.length (nums bs)
theorem Own.bs {w : World} {base : Nat} {v : Value} {bs : List Byte} (h : Own w base v bs) : Bs w base w.heap.size v bs := by
  rcases h.2 with ⟨hv, h0⟩ | ⟨g, cap, cur, hv, hb, hg, hnc, hcm, hcs, htake⟩
  · subst hv
    have : bs = [] := List.eq_nil_of_length_eq_zero h0
    subst this
    exact ⟨none, 0, rfl, by simp, by omega, Rd.nil _ _ _ _ _⟩
  · subst hv
    exact ⟨_, cap, rfl, hnc, by simpa [maxLen] using hcm, Rd.of_own h⟩
theorem Own.keep {w w' : World} {base : Nat} {v : Value} {bs : List Byte} (h : Own w base v bs) (hs : Same base w.heap.size w w') : Own w' base v bs :=
  own_keep h fun k hk => by have := h.lt k hk; exact hs k this.1 this.2

theorem own_empty (W : World) (base : Nat) (hb : base ≤ W.heap.size) : (W.alloc (.cells #[] 5)).ownsRow base 5 1 (.slice (some ⟨W.heap.size, 0, none⟩) 0 0) 0 [] := by
  have := World.ownsRow_lit (base := base) (e := 5) (size := 1) W #[] 0 hb (by decide) (by simp)
  simpa using this
theorem heap_alloc (w : World) (o : Obj) (k : Nat) : (w.alloc o).heap[k]? = if k = w.heap.size then some o else w.heap[k]? := Array.getElem?_push
theorem size_alloc (w : World) (o : Obj) : (w.alloc o).heap.size = w.heap.size + 1 := Array.size_push _
theorem heap_set (w : World) (g i : Nat) (v : Value) (k : Nat) (h : g ≠ k) : (w.setCell ⟨g, i, none⟩ v).heap[k]? = w.heap[k]? := by simp [World.setCell, Array.getElem?_modify, h]
theorem heap_drew (w : World) : w.drew.heap = w.heap := rfl
theorem heap_drewN (w : World) (n : Nat) : (w.drewN n).heap = w.heap := rfl
theorem info5 : (Try.prog.info? 5).map (fun i => (i.zero, i.size, i.bytes)) = some (some (.int .u8 0), 1, 1) := by kernel_rfl
theorem block_later {w w' : World} {B : Nat} (hb : Below B w w') {b : Nat} {c : Array Value} {t : TypeId} (h : w.heap[b]? = some (.cells c t (0, 0))) (hB : b < B) : w'.heap[b]? = some (.cells c t (0, 0)) := (hb.block b hB).trans h
theorem block_new (w : World) (o : Obj) : (w.alloc o).heap[w.heap.size]? = some o := by rw [heap_alloc, if_pos rfl]
theorem below_new (w : World) (o : Obj) : Below w.heap.size w (w.alloc o) := (Below.refl _ w).alloc (Nat.le_refl _) _
/-- An array's block. -/
def Arr (w : World) (g : Nat) (t : TypeId) (vs : List Value) : Prop := w.heap[g]? = some (.cells vs.toArray t (0, 0))
theorem Arr.lt {w : World} {g : Nat} {t : TypeId} {vs : List Value} (h : Arr w g t vs) : g < w.heap.size := (Array.getElem?_eq_some_iff.1 h).1
theorem Arr.cell {w : World} {g : Nat} {t : TypeId} {vs : List Value} (h : Arr w g t vs) {i : Nat} {v : Value} (hi : vs[i]? = some v) : w.cell? ⟨g, i, none⟩ = some v := by
  simp [World.cell?, show w.heap[g]? = _ from h, hi]
theorem Arr.frozen {w : World} {g : Nat} {t : TypeId} {vs : List Value} (h : Arr w g t vs) (i : Nat) : w.frozen? ⟨g, i, none⟩ = false := by
  simp [World.frozen?, show w.heap[g]? = _ from h]
theorem Arr.set {w : World} {g : Nat} {t : TypeId} {vs : List Value} (h : Arr w g t vs) (i : Nat) (v : Value) : Arr (w.setCell ⟨g, i, none⟩ v) g t (vs.set i v) := by
  unfold Arr at h ⊢
  simp [World.setCell, Array.getElem?_modify, h]
theorem Arr.other {w : World} {g g' : Nat} {t : TypeId} {vs : List Value} (h : Arr w g t vs) (hne : g' ≠ g) (i : Nat) (v : Value) : Arr (w.setCell ⟨g', i, none⟩ v) g t vs := (heap_set w g' i v g hne).trans h
theorem Arr.keep {w w' : World} {g : Nat} {t : TypeId} {vs : List Value} (h : Arr w g t vs) (hs : w'.heap[g]? = w.heap[g]?) : Arr w' g t vs := hs.trans h
theorem Arr.later {w w' : World} {g B : Nat} {t : TypeId} {vs : List Value} (h : Arr w g t vs) (hb : Below B w w') (hg : g < B) : Arr w' g t vs := (hb.block g hg).trans h
theorem Arr.alloc {w : World} {g : Nat} {t : TypeId} {vs : List Value} (h : Arr w g t vs) (o : Obj) : Arr (w.alloc o) g t vs := (Below.heap_alloc _ _ _ h.lt).trans h
theorem Arr.new (w : World) (vs : List Value) (t : TypeId) : Arr (w.alloc (.cells vs.toArray t)) w.heap.size t vs := block_new _ _
theorem Arr.drew {w : World} {g : Nat} {t : TypeId} {vs : List Value} (h : Arr w g t vs) : Arr w.drew g t vs := h
theorem Arr.drewN {w : World} {g : Nat} {t : TypeId} {vs : List Value} (h : Arr w g t vs) (n : Nat) : Arr (w.drewN n) g t vs := h
/-- Block g alone is turned. -/
structure Only (g : Nat) (w w' : World) : Prop where
  os : w'.os = w.os
  tape : w'.tape = w.tape
  output : w'.output = w.output
  size : w'.heap.size = w.heap.size
  block : ∀ k, k ≠ g → w'.heap[k]? = w.heap[k]?
theorem Only.refl (g : Nat) (w : World) : Only g w w := ⟨rfl, rfl, rfl, rfl, fun _ _ => rfl⟩
theorem Only.trans {g : Nat} {a b c : World} (h : Only g a b) (h' : Only g b c) : Only g a c := ⟨h'.os.trans h.os, h'.tape.trans h.tape, h'.output.trans h.output, h'.size.trans h.size, fun k hk => (h'.block k hk).trans (h.block k hk)⟩
theorem Only.set (w : World) (g i : Nat) (v : Value) : Only g w (w.setCell ⟨g, i, none⟩ v) := ⟨rfl, rfl, rfl, by simp [World.setCell], fun k hk => heap_set _ _ _ _ _ (Ne.symm hk)⟩
theorem Only.drew {g : Nat} {a b : World} (h : Only g a b) : Only g a b.drew := ⟨h.os, h.tape, h.output, h.size, h.block⟩
theorem Only.below {g B : Nat} {w w' : World} (h : Only g w w') (hg : B ≤ g) : Below B w w' := ⟨h.os, h.tape, h.output, Nat.le_of_eq h.size.symm, fun k hk => h.block k (by omega)⟩
/-- Rounds. -/
def it {σ : Type} (f : Nat → σ → σ) : Nat → σ → σ
  | 0, s => s
  | n + 1, s => f n (it f n s)
theorem it_succ {σ : Type} (f : Nat → σ → σ) (n : Nat) (s : σ) : it f (n + 1) s = f n (it f n s) := rfl
/-- Number i of a list (closed to simp). -/
def gt {α : Type} (l : List α) (d : α) (i : Nat) : α := l.getD i d
def m64 (l : List (BitVec 64)) : List Value := l.map fun x => .int .u64 (n64 x)
def m32 (l : List (BitVec 32)) : List Value := l.map fun x => .int .u32 (n32 x)
def mi (l : List Nat) : List Value := l.map fun (x : Nat) => .int .i64 (x : Int)
theorem m64_get {l : List (BitVec 64)} {i : Nat} (h : i < l.length) : (m64 l)[i]? = some (.int .u64 (n64 (gt l 0#64 i))) := by simp [m64, gt, List.getElem?_eq_getElem h, List.getD]
theorem m32_get {l : List (BitVec 32)} {i : Nat} (h : i < l.length) : (m32 l)[i]? = some (.int .u32 (n32 (gt l 0#32 i))) := by simp [m32, gt, List.getElem?_eq_getElem h, List.getD]
theorem mi_get {l : List Nat} {i : Nat} (h : i < l.length) : (mi l)[i]? = some (.int .i64 ((gt l 0 i : Nat) : Int)) := by simp [mi, gt, List.getElem?_eq_getElem h, List.getD]
theorem m64_set (l : List (BitVec 64)) (i : Nat) (x : BitVec 64) : (m64 l).set i (.int .u64 (n64 x)) = m64 (l.set i x) := by simp [m64, List.map_set]
theorem m32_set (l : List (BitVec 32)) (i : Nat) (x : BitVec 32) : (m32 l).set i (.int .u32 (n32 x)) = m32 (l.set i x) := by simp [m32, List.map_set]
theorem mi_set (l : List Nat) (i : Nat) (x : Nat) : (mi l).set i (.int .i64 (x : Int)) = mi (l.set i x) := by simp [mi, List.map_set]
theorem nums_set (l : List Byte) (i : Nat) (x : Byte) : (nums l).set i (.int .u8 (n8 x)) = nums (l.set i x) := by simp [nums, List.map_set]
theorem nums_getD {l : List Byte} {i : Nat} (h : i < l.length) : (nums l)[i]? = some (.int .u8 (n8 (gt l 0#8 i))) := by simp [nums, gt, List.getElem?_eq_getElem h, List.getD]
theorem m64_len (l : List (BitVec 64)) : (m64 l).length = l.length := by simp [m64]
theorem m32_len (l : List (BitVec 32)) : (m32 l).length = l.length := by simp [m32]
theorem mi_len (l : List Nat) : (mi l).length = l.length := by simp [mi]
end Go.Proofs.Ytnlcndlfdnogaaa.M
