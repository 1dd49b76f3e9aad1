/- A region that draws its order, where each operation can be shown by what its own forerunners have left: as many cases as operations, not as orders. -/
import Derived.StillTail
import Derived.Still
import Derived.WalkKit
import Derived.Test.YtnlcndlfdnogaaaD3
set_option linter.unusedVariables false
set_option linter.unusedSimpArgs false
namespace Go.Proofs.Ytnlcndlfdnogaaa.Rs
open D0 M Go.RowKit
section
variable {P : Program} {ops : Array Oper} {Q : Exit → Act → World → Prop}
/-- How many operations have not come up. -/
def left (l : List Nat) (listed : Array Bool) : Nat := l.countP fun i => !listed.getD i true
theorem getD_set (listed : Array Bool) (i j : Nat) (d : Bool) : (listed.setIfInBounds i true).getD j d = if i = j ∧ i < listed.size then true else listed.getD j d := by
  simp only [Array.getD_eq_getD_getElem?]
  by_cases h : i = j
  · subst h
    by_cases hs : i < listed.size
    · rw [Array.getElem?_setIfInBounds_self_of_lt hs, if_pos ⟨rfl, hs⟩]; rfl
    · rw [if_neg (fun h => hs h.2), Array.getElem?_eq_none (by simpa using Nat.le_of_not_lt hs), Array.getElem?_eq_none (Nat.le_of_not_lt hs)]
  · rw [Array.getElem?_setIfInBounds_ne h, if_neg (fun e => h e.1)]
theorem left_le (listed : Array Bool) (i : Nat) : ∀ l : List Nat, left l (listed.setIfInBounds i true) ≤ left l listed := by
  intro l
  unfold left
  refine List.countP_mono_left fun x _ hx => ?_
  rw [getD_set] at hx
  split at hx
  · cases hx
  · exact hx
theorem left_lt (listed : Array Bool) (i : Nat) (h : listed.getD i true = false) : ∀ l : List Nat, i ∈ l → left l (listed.setIfInBounds i true) < left l listed
  | x :: l, hm => by
    have hs : i < listed.size := by
      rcases Nat.lt_or_ge i listed.size with h' | h'
      · exact h'
      · rw [Array.getD_eq_getD_getElem?, Array.getElem?_eq_none h'] at h; cases h
    unfold left
    rw [List.countP_cons, List.countP_cons]
    by_cases hx : x = i
    · subst hx
      have := left_le listed x l
      unfold left at this
      have e1 : (listed.setIfInBounds x true).getD x true = true := by rw [getD_set, if_pos ⟨rfl, hs⟩]
      simp only [e1, h, Bool.not_true, Bool.not_false, Bool.false_eq_true, if_false, if_true]
      omega
    · have hm' : i ∈ l := by
        rcases List.mem_cons.1 hm with h | h
        · exact absurd h.symm hx
        · exact h
      have := left_lt listed i h l hm'
      unfold left at this
      have e1 : (listed.setIfInBounds i true).getD x true = listed.getD x true := by rw [getD_set, if_neg (fun e => hx e.1.symm)]
      rw [e1]
      omega
/-- One operation, by what its forerunners have left. -/
def Step (P : Program) (ops : Array Oper) (Q : Exit → Act → World → Prop) (sl : Nat → Nat) (V : Nat → Value → World → Prop) (Inv : World → Prop) (a0 : Act) (i : Nat) (o : Oper) : Prop :=
  ∀ (a : Act) (w : World), Inv w → a.defers = a0.defers → (∀ t, (∀ j, j < ops.size → sl j ≠ t) → a.tmps[t]? = a0.tmps[t]?) →
    (∀ j, (o.after.toList.any fun e => e.on == j && Region.binds .any e) = true → ∃ v, a.tmps[sl j]? = some v ∧ V j v w) →
    Region.wanted o (yielded ops a.tmps) = true ∧ o.wp P a w (fun a' w' => ∃ v, a' = a.put o.dst v ∧ V i v w' ∧ Inv w' ∧ Below w.heap.size w w') Q
def Steps (P : Program) (ops : Array Oper) (Q : Exit → Act → World → Prop) (sl : Nat → Nat) (V : Nat → Value → World → Prop) (Inv : World → Prop) (a0 : Act) : Nat → List Oper → Prop
  | _, [] => True
  | i, o :: rest => Step P ops Q sl V Inv a0 i o ∧ Steps P ops Q sl V Inv a0 (i + 1) rest
theorem Steps.at_ {sl : Nat → Nat} {V : Nat → Value → World → Prop} {Inv : World → Prop} {a0 : Act} (l : List Oper) : ∀ (b i : Nat) (o : Oper), Steps P ops Q sl V Inv a0 b l → l[i]? = some o → Step P ops Q sl V Inv a0 (b + i) o := by
  induction l with
  | nil => intro b i o h e; simp at e
  | cons x l ih =>
    intro b i o h e
    cases i with
    | zero =>
      rw [List.getElem?_cons_zero] at e
      injection e with e
      subst e
      exact h.1
    | succ i =>
      rw [List.getElem?_cons_succ] at e
      have := ih (b + 1) i o h.2 e
      rwa [show b + 1 + i = b + (i + 1) from by omega] at this
/-- The slots: each operation has its own, and waits for elder ones alone. -/
def slotsB (ops : List Oper) (sl : Nat → Nat) (n : Nat) : Bool :=
  (List.range ops.length).all fun i => match ops[i]? with
    | some o => o.dst == some (sl i) && decide (sl i < n) && o.after.all (fun e => decide (e.on < i)) && (List.range i).all (fun j => sl j != sl i)
    | none => false
theorem wpAny_each {sl : Nat → Nat} {V : Nat → Value → World → Prop} {Inv : World → Prop} {a0 : Act}
    (hslot : ∀ i o, ops[i]? = some o → o.dst = some (sl i) ∧ sl i < a0.tmps.size ∧ ∀ e ∈ o.after, e.on < i)
    (hinj : ∀ i j, i < ops.size → j < ops.size → sl i = sl j → i = j)
    (hkeep : ∀ j v w w', V j v w → Below w.heap.size w w' → V j v w')
    (hstep : ∀ i o, ops[i]? = some o → Step P ops Q sl V Inv a0 i o)
    (hQ : ∀ (a : Act) (w : World), Inv w → a.tmps.size = a0.tmps.size → a.defers = a0.defers → (∀ t, (∀ j, j < ops.size → sl j ≠ t) → a.tmps[t]? = a0.tmps[t]?) → (∀ j, j < ops.size → ∃ v, a.tmps[sl j]? = some v ∧ V j v w) → Q .normal a w) :
    ∀ (fuel : Nat) (listed : Array Bool) (a : Act) (w : World), listed.size = ops.size → left (List.range ops.size) listed ≤ fuel → Inv w → a.tmps.size = a0.tmps.size → a.defers = a0.defers →
      (∀ t, (∀ j, j < ops.size → sl j ≠ t) → a.tmps[t]? = a0.tmps[t]?) → (∀ j, j < ops.size → listed.getD j true = true → ∃ v, a.tmps[sl j]? = some v ∧ V j v w) →
      wpAny P .any ops Q fuel listed a w := by
  have hall : ∀ (listed : Array Bool), Region.ready .any ops listed = [] → listed.size = ops.size → ∀ j, j < ops.size → listed.getD j true = true := by
    intro listed hr hs j
    induction j using Nat.strongRecOn with
    | _ j ih =>
      intro hj
      cases hl : listed.getD j true with
      | true => rfl
      | false =>
        exfalso
        obtain ⟨o, ho⟩ : ∃ o, ops[j]? = some o := ⟨_, Array.getElem?_eq_getElem hj⟩
        have hm : j ∈ Region.ready .any ops listed := mem_ready.2 ⟨hl, o, ho, fun e he _ => by
          have hlt := (hslot j o ho).2.2 e he
          have := ih e.on hlt (Nat.lt_trans hlt hj)
          rw [Array.getD_eq_getD_getElem?] at this ⊢
          rw [Array.getElem?_eq_getElem (by omega)] at this ⊢
          simpa using this⟩
        rw [hr] at hm
        cases hm
  intro fuel
  induction fuel with
  | zero =>
    intro listed a w hs hl hi hz hd ho hv
    have hnone : ∀ j, j < ops.size → listed.getD j true = true := fun j hj => by
      have h0 : left (List.range ops.size) listed = 0 := by omega
      unfold left at h0
      rw [List.countP_eq_zero] at h0
      have := h0 j (List.mem_range.2 hj)
      simpa using this
    refine ⟨?_, hQ a w hi hz hd ho fun j hj => hv j hj (hnone j hj)⟩
    cases hr : Region.ready .any ops listed with
    | nil => rfl
    | cons x xs =>
      exfalso
      have hm : x ∈ Region.ready .any ops listed := by rw [hr]; exact List.mem_cons_self ..
      obtain ⟨h1, o, h2, _⟩ := mem_ready.1 hm
      rw [hnone x (Array.getElem?_eq_some_iff.1 h2).1] at h1
      cases h1
  | succ fuel ih =>
    intro listed a w hs hl hi hz hd ho hv
    refine ⟨fun hr => hQ a w hi hz hd ho fun j hj => hv j hj (hall listed hr hs j hj), fun i hm => ?_⟩
    obtain ⟨h1, o, h2, h3⟩ := mem_ready.1 hm
    have hlt : i < ops.size := (Array.getElem?_eq_some_iff.1 h2).1
    obtain ⟨hdst, hsl, hel⟩ := hslot i o h2
    obtain ⟨hw, hstp⟩ := hstep i o h2 a w hi hd ho (fun j hj => by
      rw [List.any_eq_true] at hj
      obtain ⟨q, hq, hb⟩ := hj
      rw [Bool.and_eq_true, beq_iff_eq] at hb
      obtain ⟨hb1, hb2⟩ := hb
      have hmem : q ∈ o.after := Array.mem_toList_iff.1 hq
      have hjl : j < i := by have := hel _ hmem; omega
      refine hv j (by omega) ?_
      have := h3 _ hmem hb2
      rw [hb1] at this
      rw [Array.getD_eq_getD_getElem?] at this ⊢
      rw [Array.getElem?_eq_getElem (by omega)] at this ⊢
      simpa using this)
    unfold wpOp
    simp only [h2, hw, if_true]
    refine .inl (Oper.wp_mono ?_ hstp)
    rintro a' w' ⟨v, rfl, hVi, hI', hB⟩
    have hput : ∀ t, (a.put o.dst v).tmps[t]? = if sl i = t then some v else a.tmps[t]? := fun t => by
      rw [hdst]
      show (a.tmps.setIfInBounds (sl i) v)[t]? = _
      by_cases e : sl i = t
      · subst e; rw [Array.getElem?_setIfInBounds_self_of_lt (by omega), if_pos rfl]
      · rw [Array.getElem?_setIfInBounds_ne e, if_neg e]
    refine ih _ _ w' (by simpa using hs) ?_ hI' ?_ ?_ ?_ ?_
    · have := left_lt listed i h1 (List.range ops.size) (List.mem_range.2 hlt)
      omega
    · rw [hdst]; simpa [Act.put] using hz
    · rw [hdst]; simpa [Act.put] using hd
    · intro t ht
      rw [hput, if_neg (ht i hlt)]
      exact ho t ht
    · intro j hj hlj
      by_cases e : i = j
      · subst e
        exact ⟨v, by rw [hput, if_pos rfl], hVi⟩
      · rw [getD_set, if_neg (fun h => e h.1)] at hlj
        obtain ⟨u, hu, hVu⟩ := hv j hj hlj
        exact ⟨u, by rw [hput, if_neg (fun h => e (hinj i j hlt hj h))]; exact hu, hkeep j u w w' hVu hB⟩
theorem wp_region_each {id : Nat} {a : Act} {w : World} {l : List Oper} (sl : Nat → Nat) (V : Nat → Value → World → Prop) (Inv : World → Prop) (hm : P.follows .mixedOrders = true)
    (hsl : slotsB l sl a.tmps.size = true) (hi : Inv w.drew)
    (hkeep : ∀ j v w w', V j v w → Below w.heap.size w w' → V j v w')
    (hstep : Steps P l.toArray Q sl V Inv a 0 l)
    (hQ : ∀ (a' : Act) (w' : World), Inv w' → a'.tmps.size = a.tmps.size → a'.defers = a.defers → (∀ t, (∀ j, j < l.length → sl j ≠ t) → a'.tmps[t]? = a.tmps[t]?) → (∀ j, j < l.length → ∃ v, a'.tmps[sl j]? = some v ∧ V j v w') → Q .normal a' w') :
    (Code.region id l.toArray true).wp P Q a w := by
  have hs : ∀ i o, l[i]? = some o → o.dst = some (sl i) ∧ sl i < a.tmps.size ∧ (∀ e ∈ o.after, e.on < i) ∧ ∀ j, j < i → sl j ≠ sl i := by
    intro i o ho
    unfold slotsB at hsl
    rw [List.all_eq_true] at hsl
    have := hsl i (List.mem_range.2 (List.getElem?_eq_some_iff.1 ho).1)
    rw [ho] at this
    simp only [Bool.and_eq_true, beq_iff_eq, decide_eq_true_eq, Array.all_eq_true', List.all_eq_true, List.mem_range, bne_iff_ne] at this
    exact ⟨this.1.1.1, this.1.1.2, this.1.2, this.2⟩
  have hsize : l.toArray.size = l.length := by simp
  refine wp_region_any hm (wpAny_each (sl := sl) (V := V) (Inv := Inv) (a0 := a) (fun i o ho => ?_) (fun i j hi hj e => ?_) hkeep (fun i o ho => ?_) (fun a' w' h1 h2 h3 h4 h5 => hQ a' w' h1 h2 h3 (fun t ht => h4 t (fun j hj => ht j (by simpa using hj))) (fun j hj => h5 j (by simpa using hj))) _ _ a _ (by simp) ?_ hi rfl rfl (fun _ _ => rfl) (fun j hj hl => ?_))
  · rw [List.getElem?_toArray] at ho
    obtain ⟨a1, a2, a3, _⟩ := hs i o ho
    exact ⟨a1, a2, a3⟩
  · rcases Nat.lt_trichotomy i j with h | h | h
    · exact absurd e ((hs j _ (List.getElem?_eq_getElem (by simpa using hj))).2.2.2 i h)
    · exact h
    · exact absurd e.symm ((hs i _ (List.getElem?_eq_getElem (by simpa using hi))).2.2.2 j h)
  · rw [List.getElem?_toArray] at ho
    have := Steps.at_ l 0 i o hstep ho
    rwa [Nat.zero_add] at this
  · unfold left
    have := List.countP_le_length (p := fun i => !(Array.replicate l.toArray.size false).getD i true) (l := List.range l.toArray.size)
    simpa using this
  · exfalso
    rw [Array.getD_eq_getD_getElem?, Array.getElem?_eq_getElem (by simpa using hj)] at hl
    simp at hl
theorem eval_of {a : Act} {t : Nat} {v : Value} (h : a.tmps[t]? = some v) : a.eval (.tmp t) = v := by
  show a.tmps.getD t undef = v
  rw [Array.getD_eq_getD_getElem?, h]
  rfl
theorem wanted_none {o : Oper} {y : Nat → Option Bool} (h : o.guard = none) : Region.wanted o y = true := by simp [Region.wanted, h]
theorem wanted_of {o og : Oper} {tmps : Array Value} {g t : Nat} {b : Bool} (h : o.guard = some (g, b)) (hog : ops[g]? = some og) (hd : og.dst = some t) (hv : tmps[t]? = some (.bool b)) : Region.wanted o (yielded ops tmps) = true := by
  simp [Region.wanted, h, yielded, hog, hd, hv]
theorem wp_val {o : Oper} {a : Act} {w w' : World} {K : Act → World → Prop} {v : Value} (h : (execOp a.eval o).run P w = .ok (.value v) w') (hK : K (a.put o.dst v) w') : o.wp P a w K Q := by
  unfold Oper.wp
  rw [h]
  exact hK
theorem wp_call {o : Oper} {a : Act} {w w' : World} {K : Act → World → Prop} {f : FuncId} {args : Array Value} (h : (execOp a.eval o).run P w = .ok (.enter f args) w') (hc : Calls P f args w' fun e w'' => ∃ v, e = .returned v ∧ K (a.put o.dst v) w'') : o.wp P a w K Q := by
  unfold Oper.wp
  rw [h]
  exact Calls.mono hc fun e w'' ⟨v, he, hK⟩ => by subst he; exact hK
end
/-- What a slot of a region holds. -/
inductive Kd where
  | eq (v : Value)
  | bs (b : List Byte)
def VK : Kd → Value → World → Prop
  | .eq u, v, _ => v = u
  | .bs b, v, w => Bs w 0 w.heap.size v b
theorem VK.keep {w w' : World} (hb : Below w.heap.size w w') : ∀ {k : Kd} {v : Value}, VK k v w → VK k v w'
  | .eq u, v, h => h
  | .bs b, v, h => (Bs.keep h (Same.of_below hb (Nat.le_refl _))).wide (Nat.le_refl _) hb.size
section
variable {P : Program} {ops : Array Oper} {Q : Exit → Act → World → Prop} {sl : Nat → Nat} {V : Nat → Value → World → Prop} {Inv : World → Prop} {a0 : Act}
theorem Steps.cons {i : Nat} {o : Oper} {rest : List Oper} (h : Step P ops Q sl V Inv a0 i o) (h' : Steps P ops Q sl V Inv a0 (i + 1) rest) : Steps P ops Q sl V Inv a0 i (o :: rest) := ⟨h, h'⟩
theorem Steps.nil {i : Nat} : Steps P ops Q sl V Inv a0 i [] := trivial
theorem fin_val {o : Oper} {a : Act} {w w' : World} {v : Value} {W : Value → World → Prop} (h : (execOp a.eval o).run P w = .ok (.value v) w') (hV : W v w') (hi : Inv w') (hb : Below w.heap.size w w') :
    o.wp P a w (fun a' w' => ∃ v, a' = a.put o.dst v ∧ W v w' ∧ Inv w' ∧ Below w.heap.size w w') Q := wp_val h ⟨v, rfl, hV, hi, hb⟩
theorem fin_call {o : Oper} {a : Act} {w : World} {f : FuncId} {args : Array Value} {W : Value → World → Prop} (h : (execOp a.eval o).run P w = .ok (.enter f args) w) (hc : Calls P f args w fun e w' => ∃ v, e = .returned v ∧ W v w' ∧ Below w.heap.size w w') (hi : ∀ w', Below w.heap.size w w' → Inv w') :
    o.wp P a w (fun a' w' => ∃ v, a' = a.put o.dst v ∧ W v w' ∧ Inv w' ∧ Below w.heap.size w w') Q :=
  wp_call h (Calls.mono hc fun e w' ⟨v, he, hV, hb⟩ => ⟨v, he, v, rfl, hV, hi w' hb, hb⟩)
end
end Go.Proofs.Ytnlcndlfdnogaaa.Rs
