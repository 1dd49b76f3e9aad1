/- A region that draws its order, by a statement over what is listed, the slots and memory: one case an operation, stores too. -/
import Derived.StillTail
import Derived.Still
import Derived.WalkKit
import Derived.Test.YtnlcndlfdnogaaaD3
set_option linter.unusedVariables false
set_option linter.unusedSimpArgs false
namespace Go.Proofs.Ytnlcndlfdnogaaa.Rv
open M Go.RowKit
section
variable {P : Program} {ops : Array Oper} {Q : Exit → Act → World → Prop}
/-- How many operations have not come up. -/
def left (l : List Nat) (listed : Array Bool) : Nat := l.countP fun i => !listed.getD i true
theorem getD_set (listed : Array Bool) (i j : Nat) (d : Bool) : (listed.setIfInBounds i true).getD j d = if i = j ∧ i < listed.size then true else listed.getD j d := by
  simp only [Array.getD_eq_getD_getElem?]
  by_cases h : i = j
  · subst h
    by_cases hs : i < listed.size
    · rw [Array.getElem?_setIfInBounds_self_of_lt hs, if_pos ⟨rfl, hs⟩]; rfl
    · rw [if_neg (fun h => hs h.2), Array.getElem?_eq_none (by simpa using Nat.le_of_not_lt hs), Array.getElem?_eq_none (Nat.le_of_not_lt hs)]
  · rw [Array.getElem?_setIfInBounds_ne h, if_neg (fun e => h e.1)]
theorem left_le (listed : Array Bool) (i : Nat) : ∀ l : List Nat, left l (listed.setIfInBounds i true) ≤ left l listed := by
  intro l
  unfold left
  refine List.countP_mono_left fun x _ hx => ?_
  rw [getD_set] at hx
  split at hx
  · cases hx
  · exact hx
theorem left_lt (listed : Array Bool) (i : Nat) (h : listed.getD i true = false) : ∀ l : List Nat, i ∈ l → left l (listed.setIfInBounds i true) < left l listed
  | x :: l, hm => by
    have hs : i < listed.size := by
      rcases Nat.lt_or_ge i listed.size with h' | h'
      · exact h'
      · rw [Array.getD_eq_getD_getElem?, Array.getElem?_eq_none h'] at h; cases h
    unfold left
    rw [List.countP_cons, List.countP_cons]
    by_cases hx : x = i
    · subst hx
      have := left_le listed x l
      unfold left at this
      have e1 : (listed.setIfInBounds x true).getD x true = true := by rw [getD_set, if_pos ⟨rfl, hs⟩]
      simp only [e1, h, Bool.not_true, Bool.not_false, Bool.false_eq_true, if_false, if_true]
      omega
    · have hm' : i ∈ l := by
        rcases List.mem_cons.1 hm with h | h
        · exact absurd h.symm hx
        · exact h
      have := left_lt listed i h l hm'
      unfold left at this
      have e1 : (listed.setIfInBounds i true).getD x true = listed.getD x true := by rw [getD_set, if_neg (fun e => hx e.1.symm)]
      rw [e1]
      omega
/-- The slots. -/
def look (a : Act) (t : Nat) : Value := a.tmps.getD t undef
def upd (s : Nat → Value) (d : Option Nat) (v : Value) : Nat → Value := fun t => if d = some t then v else s t
def lis (L : Nat → Bool) (i : Nat) : Nat → Bool := fun j => if i = j then true else L j
/-- One operation. -/
def StepS (P : Program) (ops : Array Oper) (Q : Exit → Act → World → Prop) (J : (Nat → Bool) → (Nat → Value) → World → Prop) (a0 : Act) (i : Nat) (o : Oper) : Prop :=
  ∀ (L : Nat → Bool) (a : Act) (w : World), J L (look a) w → L i = false → (∀ j, (o.after.toList.any fun e => e.on == j && Region.binds .any e) = true → L j = true) →
    Region.wanted o (yielded ops a.tmps) = true ∧ o.wp P a w (fun a' w' => ∃ v, a' = a.put o.dst v ∧ J (lis L i) (upd (look a) o.dst v) w') Q
def StepsS (P : Program) (ops : Array Oper) (Q : Exit → Act → World → Prop) (J : (Nat → Bool) → (Nat → Value) → World → Prop) (a0 : Act) : Nat → List Oper → Prop
  | _, [] => True
  | i, o :: rest => StepS P ops Q J a0 i o ∧ StepsS P ops Q J a0 (i + 1) rest
theorem StepsS.at_ {J : (Nat → Bool) → (Nat → Value) → World → Prop} {a0 : Act} (l : List Oper) : ∀ (b i : Nat) (o : Oper), StepsS P ops Q J a0 b l → l[i]? = some o → StepS P ops Q J a0 (b + i) o := by
  induction l with
  | nil => intro b i o h e; simp at e
  | cons x l ih =>
    intro b i o h e
    cases i with
    | zero =>
      rw [List.getElem?_cons_zero] at e
      injection e with e
      subst e
      exact h.1
    | succ i =>
      rw [List.getElem?_cons_succ] at e
      have := ih (b + 1) i o h.2 e
      rwa [show b + 1 + i = b + (i + 1) from by omega] at this
/-- Each operation waits for elder ones alone; its slot is there. -/
def slotsB (ops : List Oper) (n : Nat) : Bool :=
  (List.range ops.length).all fun i => match ops[i]? with
    | some o => (match o.dst with | some d => decide (d < n) | none => true) && o.after.all (fun e => decide (e.on < i))
    | none => false
theorem wpAny_state {J : (Nat → Bool) → (Nat → Value) → World → Prop} {a0 : Act}
    (hslot : ∀ (i : Nat) (o : Oper), ops[i]? = some o → (∀ d, o.dst = some d → d < a0.tmps.size) ∧ ∀ e ∈ o.after, e.on < i)
    (hstep : ∀ (i : Nat) (o : Oper), ops[i]? = some o → StepS P ops Q J a0 i o)
    (hQ : ∀ (L : Nat → Bool) (a : Act) (w : World), a.tmps.size = a0.tmps.size → a.defers = a0.defers → (∀ j, j < ops.size → L j = true) → J L (look a) w → Q .normal a w) :
    ∀ (fuel : Nat) (listed : Array Bool) (a : Act) (w : World), listed.size = ops.size → left (List.range ops.size) listed ≤ fuel → a.tmps.size = a0.tmps.size → a.defers = a0.defers →
      J (fun j => listed.getD j true) (look a) w → wpAny P .any ops Q fuel listed a w := by
  have hall : ∀ (listed : Array Bool), Region.ready .any ops listed = [] → listed.size = ops.size → ∀ j, j < ops.size → listed.getD j true = true := by
    intro listed hr hs j
    induction j using Nat.strongRecOn with
    | _ j ih =>
      intro hj
      cases hl : listed.getD j true with
      | true => rfl
      | false =>
        exfalso
        obtain ⟨o, ho⟩ : ∃ o, ops[j]? = some o := ⟨_, Array.getElem?_eq_getElem hj⟩
        have hm : j ∈ Region.ready .any ops listed := mem_ready.2 ⟨hl, o, ho, fun e he _ => by
          have hlt := (hslot j o ho).2 e he
          have := ih e.on hlt (Nat.lt_trans hlt hj)
          rw [Array.getD_eq_getD_getElem?] at this ⊢
          rw [Array.getElem?_eq_getElem (by omega)] at this ⊢
          simpa using this⟩
        rw [hr] at hm
        cases hm
  intro fuel
  induction fuel with
  | zero =>
    intro listed a w hs hl hz hd hj
    have hnone : ∀ j, j < ops.size → listed.getD j true = true := fun j hj => by
      have h0 : left (List.range ops.size) listed = 0 := by omega
      unfold left at h0
      rw [List.countP_eq_zero] at h0
      have := h0 j (List.mem_range.2 hj)
      simpa using this
    refine ⟨?_, hQ _ a w hz hd hnone hj⟩
    cases hr : Region.ready .any ops listed with
    | nil => rfl
    | cons x xs =>
      exfalso
      have hm : x ∈ Region.ready .any ops listed := by rw [hr]; exact List.mem_cons_self ..
      obtain ⟨h1, o, h2, _⟩ := mem_ready.1 hm
      rw [hnone x (Array.getElem?_eq_some_iff.1 h2).1] at h1
      cases h1
  | succ fuel ih =>
    intro listed a w hs hl hz hd hj
    refine ⟨fun hr => hQ _ a w hz hd (hall listed hr hs) hj, fun i hm => ?_⟩
    obtain ⟨h1, o, h2, h3⟩ := mem_ready.1 hm
    have hlt : i < ops.size := (Array.getElem?_eq_some_iff.1 h2).1
    obtain ⟨hsl, hel⟩ := hslot i o h2
    obtain ⟨hw, hstp⟩ := hstep i o h2 _ a w hj h1 (fun j hj => by
      rw [List.any_eq_true] at hj
      obtain ⟨q, hq, hb⟩ := hj
      rw [Bool.and_eq_true, beq_iff_eq] at hb
      obtain ⟨hb1, hb2⟩ := hb
      have hmem : q ∈ o.after := Array.mem_toList_iff.1 hq
      have hjl : j < i := by have := hel _ hmem; omega
      have := h3 _ hmem hb2
      rw [hb1] at this
      show listed.getD j true = true
      rw [Array.getD_eq_getD_getElem?] at this ⊢
      rw [Array.getElem?_eq_getElem (by omega)] at this ⊢
      simpa using this)
    unfold wpOp
    simp only [h2, hw, if_true]
    refine .inl (Oper.wp_mono ?_ hstp)
    rintro a' w' ⟨v, rfl, hJ⟩
    have hL : (fun j => (listed.setIfInBounds i true).getD j true) = lis (fun j => listed.getD j true) i := by
      funext j
      rw [getD_set]
      unfold lis
      by_cases e : i = j
      · rw [if_pos ⟨e, by omega⟩, if_pos e]
      · rw [if_neg (fun h => e h.1), if_neg e]
    have hS : look (a.put o.dst v) = upd (look a) o.dst v := by
      funext t
      unfold look upd
      cases ho : o.dst with
      | none => simp [Act.put]
      | some d =>
        have hdl : d < a.tmps.size := by rw [hz]; exact hsl d ho
        show (a.tmps.setIfInBounds d v).getD t undef = _
        rw [Array.getD_eq_getD_getElem?]
        by_cases e : d = t
        · subst e
          rw [Array.getElem?_setIfInBounds_self_of_lt hdl, if_pos rfl]
          rfl
        · rw [Array.getElem?_setIfInBounds_ne e, if_neg (fun h => e (Option.some.inj h))]
          exact (Array.getD_eq_getD_getElem? ..).symm
    refine ih _ _ w' (by simpa using hs) ?_ ?_ ?_ (by rw [hL, hS]; exact hJ)
    · have := left_lt listed i h1 (List.range ops.size) (List.mem_range.2 hlt)
      omega
    · cases ho : o.dst <;> simpa [Act.put] using hz
    · cases ho : o.dst <;> simpa [Act.put] using hd
/-- **A region that draws its order: one case an operation.** -/
theorem wp_region_state {id : Nat} {a : Act} {w : World} {l : List Oper} (J : (Nat → Bool) → (Nat → Value) → World → Prop) (hm : P.follows .mixedOrders = true)
    (hsl : slotsB l a.tmps.size = true) (hi : J (fun j => (Array.replicate l.length false).getD j true) (look a) w.drew)
    (hstep : StepsS P l.toArray Q J a 0 l)
    (hQ : ∀ (L : Nat → Bool) (a' : Act) (w' : World), a'.tmps.size = a.tmps.size → a'.defers = a.defers → (∀ j, j < l.length → L j = true) → J L (look a') w' → Q .normal a' w') :
    (Code.region id l.toArray true).wp P Q a w := by
  have hs : ∀ (i : Nat) (o : Oper), l[i]? = some o → (∀ d, o.dst = some d → d < a.tmps.size) ∧ ∀ e ∈ o.after, e.on < i := by
    intro i o ho
    unfold slotsB at hsl
    rw [List.all_eq_true] at hsl
    have := hsl i (List.mem_range.2 (List.getElem?_eq_some_iff.1 ho).1)
    rw [ho] at this
    simp only [Bool.and_eq_true, Array.all_eq_true', decide_eq_true_eq] at this
    refine ⟨fun d hd => ?_, this.2⟩
    have h1 := this.1
    rw [hd] at h1
    simpa using h1
  have hsize : l.toArray.size = l.length := by simp
  refine wp_region_any hm (wpAny_state (J := J) (a0 := a) (fun i o ho => hs i o (by rwa [List.getElem?_toArray] at ho)) (fun i o ho => ?_) (fun L a' w' h1 h2 h3 h4 => hQ L a' w' h1 h2 (fun j hj => h3 j (by simpa using hj)) h4) _ _ a _ (by simp) ?_ rfl rfl (by rw [hsize]; exact hi))
  · rw [List.getElem?_toArray] at ho
    have := StepsS.at_ l 0 i o hstep ho
    rwa [Nat.zero_add] at this
  · unfold left
    have := List.countP_le_length (p := fun i => !(Array.replicate l.toArray.size false).getD i true) (l := List.range l.toArray.size)
    simpa using this
theorem wanted_none {o : Oper} {y : Nat → Option Bool} (h : o.guard = none) : Region.wanted o y = true := by simp [Region.wanted, h]
theorem wp_val {o : Oper} {a : Act} {w w' : World} {K : Act → World → Prop} {v : Value} (h : (execOp a.eval o).run P w = .ok (.value v) w') (hK : K (a.put o.dst v) w') : o.wp P a w K Q := by
  unfold Oper.wp
  rw [h]
  exact hK
theorem wp_call {o : Oper} {a : Act} {w w' : World} {K : Act → World → Prop} {f : FuncId} {args : Array Value} (h : (execOp a.eval o).run P w = .ok (.enter f args) w') (hc : Calls P f args w' fun e w'' => ∃ v, e = .returned v ∧ K (a.put o.dst v) w'') : o.wp P a w K Q := by
  unfold Oper.wp
  rw [h]
  exact Calls.mono hc fun e w'' ⟨v, he, hK⟩ => by subst he; exact hK
/-- The slots that a region fills, over those it leaves. -/
theorem act_of {a a0 : Act} (sl : List Nat) (hz : a.tmps.size = a0.tmps.size) (hd : a.defers = a0.defers) (ho : ∀ t, t ∉ sl → look a t = look a0 t) : a = { a0 with tmps := sl.foldl (fun b t => b.setIfInBounds t (look a t)) a0.tmps } := by
  have h1 : ∀ (sl : List Nat) (b : Array Value), (sl.foldl (fun b t => b.setIfInBounds t (look a t)) b).size = b.size := by
    intro sl
    induction sl with
    | nil => intro b; rfl
    | cons x xs ih => intro b; simp [List.foldl_cons, ih]
  have h2 : ∀ (sl : List Nat) (b : Array Value) (t : Nat), t < b.size → (sl.foldl (fun b t => b.setIfInBounds t (look a t)) b).getD t undef = if t ∈ sl then look a t else b.getD t undef := by
    intro sl
    induction sl with
    | nil => intro b t ht; simp
    | cons x xs ih =>
      intro b t ht
      rw [List.foldl_cons, ih _ _ (by simpa using ht)]
      by_cases hx : t ∈ xs
      · rw [if_pos hx, if_pos (List.mem_cons_of_mem _ hx)]
      · rw [if_neg hx]
        by_cases e : x = t
        · subst e
          rw [if_pos (List.mem_cons_self ..), Array.getD_eq_getD_getElem?, Array.getElem?_setIfInBounds_self_of_lt ht]
          rfl
        · rw [if_neg (by simp [hx]; exact fun h => e h.symm), Array.getD_eq_getD_getElem?, Array.getElem?_setIfInBounds_ne e, Array.getD_eq_getD_getElem?]
  obtain ⟨tm, df⟩ := a
  simp only at hz hd
  subst hd
  congr 1
  apply Array.ext
  · rw [h1, hz]
  · intro i hi1 hi2
    have e1 : tm[i] = look ⟨tm, a0.defers⟩ i := by simp [look, Array.getD, hi1]
    have e2 := h2 sl a0.tmps i (by omega)
    have e3 : (sl.foldl (fun b t => b.setIfInBounds t (look ⟨tm, a0.defers⟩ t)) a0.tmps)[i] = (sl.foldl (fun b t => b.setIfInBounds t (look ⟨tm, a0.defers⟩ t)) a0.tmps).getD i undef := by simp [Array.getD, hi2]
    rw [e1, e3, e2]
    split
    · rfl
    · rename_i hn
      exact ho i hn
end
end Go.Proofs.Ytnlcndlfdnogaaa.Rv
