/- Regions that draw their order: reads and quiet calls ahead of a tail in one order: the text's walk serves every order. -/
import Derived.StillTail
import Derived.Still
import Derived.WalkKit
import Derived.Test.YtnlcndlfdnogaaaD3
set_option linter.unusedVariables false
set_option linter.unusedSimpArgs false
namespace Go.Proofs.Ytnlcndlfdnogaaa.Rg
/-- An operation that yields a value or nothing, calls no function and is no defer. -/
def valOp : Op → Bool
  | .move _ | .assign _ | .pick .. | .load .. | .binOp .. | .unOp .. | .convert .. | .slice .. | .fieldAddr .. | .field .. | .indexAddr .. | .index .. | .extract .. | .build .. => true
  | .call { callee := .builtin .len, .. } => true
  | .call { callee := .builtin .cap, .. } => true
  | _ => false

/-- What an operation's run may be. -/
def Plain : Result Next → Prop
  | .ok (.value _) _ => True
  | .ok .skip _ => True
  | .halt _ _ => True
  | _ => False

theorem plain_value {P : Program} (s : Sem Value) (w : World) : Plain ((do pure (.value (← s)) : Sem Next).run P w) := by
  rw [Sem.run_bind]
  cases s.run P w <;> simp [Result.andThen, Plain]

theorem plain_of {P : Program} {o : Oper} (h : valOp o.op = true) (ρ : Operand → Value) (w : World) : Plain ((execOp ρ o).run P w) := by
  unfold execOp
  cases ho : o.op <;> simp only [ho, valOp] at h ⊢ <;> first
    | (exact plain_value _ w)
    | (simp [Plain]; done)
    | (cases h; done)
    | skip
  case pick c a b =>
    rw [Sem.run_bind]
    cases (asBool (ρ c)).run P w <;> simp [Result.andThen, Plain]
  case call c =>
    obtain ⟨callee, args, argTypes⟩ := c
    cases callee with
    | value f => simp at h
    | invoke r m => simp at h
    | builtin b => cases b <;> simp at h <;> (simp only [resolve, invoke, builtin, Sem.run_bind, Sem.run_pure, Result.andThen_ok]; generalize Sem.run P _ w = r; cases r <;> simp [Result.andThen, Plain])

section
variable {P : Program} {ops : Array Oper} {w : World}
/-- The text's walk: what reads leaves the world; a call that leaves the world. -/
def wpC (P : Program) (ops : Array Oper) (w : World) (Q : Act → Prop) : List Oper → Act → Prop
  | [], a => Q a
  | o :: rest, a => if Region.wanted o (yielded ops a.tmps) then (valOp o.op = true ∧ o.wp P a w (fun a' w' => w' = w ∧ wpC P ops w Q rest a') (fun _ _ _ => False)) ∨ (∃ f args v, (execOp a.eval o).run P w = .ok (.enter f args) w ∧ Calls P f args w (fun e w' => e = .returned v ∧ w' = w) ∧ wpC P ops w Q rest (a.put o.dst v)) ∨ (∃ v, (execOp a.eval o).run P w = .ok (.value v) w ∧ wpC P ops w Q rest (a.put o.dst v)) else wpC P ops w Q rest (a.put o.dst undef)
theorem wpC_nil {Q : Act → Prop} {a : Act} (h : Q a) : wpC P ops w Q [] a := h
theorem wpC_run {Q : Act → Prop} {a : Act} {o : Oper} {rest : List Oper} (hw : Region.wanted o (yielded ops a.tmps) = true) (hv : valOp o.op = true)
    (h : ∀ K : Act → World → Prop, (∀ a, wpC P ops w Q rest a → K a w) → o.wp P a w K (fun _ _ _ => False)) : wpC P ops w Q (o :: rest) a := by
  unfold wpC
  rw [if_pos hw]
  exact .inl ⟨hv, h _ (fun _ h => ⟨rfl, h⟩)⟩
theorem wpC_call {Q : Act → Prop} {a : Act} {o : Oper} {rest : List Oper} (f : FuncId) (args : Array Value) (v : Value) (hw : Region.wanted o (yielded ops a.tmps) = true)
    (hr : (execOp a.eval o).run P w = .ok (.enter f args) w) (hc : Calls P f args w (fun e w' => e = .returned v ∧ w' = w)) (h : wpC P ops w Q rest (a.put o.dst v)) : wpC P ops w Q (o :: rest) a := by
  unfold wpC
  rw [if_pos hw]
  exact .inr (.inl ⟨f, args, v, hr, hc, h⟩)
theorem wpC_val {Q : Act → Prop} {a : Act} {o : Oper} {rest : List Oper} (v : Value) (hw : Region.wanted o (yielded ops a.tmps) = true)
    (hr : (execOp a.eval o).run P w = .ok (.value v) w) (h : wpC P ops w Q rest (a.put o.dst v)) : wpC P ops w Q (o :: rest) a := by
  unfold wpC
  rw [if_pos hw]
  exact .inr (.inr ⟨v, hr, h⟩)
theorem wpC_skip {Q : Act → Prop} {a : Act} {o : Oper} {rest : List Oper} (hw : Region.wanted o (yielded ops a.tmps) = false) (h : wpC P ops w Q rest (a.put o.dst undef)) : wpC P ops w Q (o :: rest) a := by
  unfold wpC
  rw [if_neg (by rw [hw]; simp)]
  exact h
theorem still_of_wpC {Q : Act → Prop} : ∀ (l : List Oper) (a : Act), wpC P ops w Q l a → wpStill P ops w Q l a
  | [], a, h => h
  | o :: rest, a, h => by
    unfold wpC at h
    unfold wpStill
    split
    · rename_i hw
      rw [if_pos hw] at h
      rcases h with h | ⟨f, args, v, h1, h2, h3⟩ | ⟨v, h1, h2⟩
      · have hp := plain_of (P := P) h.1 a.eval w
        have h2 := h.2
        unfold Oper.wp at h2
        unfold Oper.still
        generalize (execOp a.eval o).run P w = r at h2 hp
        cases r with
        | ok n w' =>
          cases n <;> simp only [Plain] at hp <;> simp only [Oper.upon] at h2 <;> simp only [Oper.stillUpon]
          all_goals exact ⟨h2.1, still_of_wpC rest _ h2.2⟩
        | halt x w' => cases x <;> simp only [Oper.upon] at h2
      · unfold Oper.still
        rw [h1]
        exact ⟨rfl, v, h2, still_of_wpC rest _ h3⟩
      · unfold Oper.still
        rw [h1]
        exact ⟨rfl, still_of_wpC rest _ h2⟩
    · rename_i hw
      rw [if_neg hw] at h
      exact still_of_wpC rest _ h
/-- **n operations that leave the world, then the tail in its one order.** -/
theorem wp_region_c {id : Nat} {Q : Exit → Act → World → Prop} {a : Act} {w : World} {l : List Oper} (n : Nat) (hm : P.follows .mixedOrders = true) (hB : Region.lexTailB .any l.toArray n = true)
    (h : wpC P l.toArray w.drew (fun a' => wpList P l.toArray Q (l.drop n) a' w.drew) (l.take n) a) : (Code.region id l.toArray true).wp P Q a w :=
  wp_region_still_tail n hm hB (still_of_wpC _ _ h)
/-- The same where all leave the world. -/
theorem wp_region_q {id : Nat} {Q : Exit → Act → World → Prop} {a : Act} {w : World} {l : List Oper} (hm : P.follows .mixedOrders = true) (hB : Region.lexB .any l.toArray = true)
    (h : wpC P l.toArray w.drew (fun a' => Q .normal a' w.drew) l a) : (Code.region id l.toArray true).wp P Q a w :=
  wp_region_still_lit hm hB (still_of_wpC _ _ h)
attribute [irreducible] wpC
end
/-- 's[m:]' without a case on the capacity. -/
theorem cut_slice {P : Program} (t e size : Nat) (ht : P.underlying t = some (.slice e)) (hi : (P.info? e).map (·.size) = some size) (A : Option Addr) (n c m : Nat) (mi : Int) (hmi : mi = (m : Int)) (hm : m ≤ n) :
    ∃ A' : Option Addr, (∀ W : World, (Instr.slice t (.slice A n c) (some (.int .i64 mi)) none none).run P W = .ok (.slice A' (n - m) (c - m)) W) ∧
      ∀ (w : World) (lo hi : Nat) (xs : List Value), n ≤ c → M.Rd w lo hi size A n xs → M.Rd w lo hi size A' (n - m) (xs.drop (m * size)) := by
  subst hmi
  refine ⟨if c = m then A else A.map (·.add (m * size)), fun W => ?_, fun w lo hi xs hc h => ?_⟩
  · have hel : P.elem t = e := by simp [Program.elem, ht]
    have hu : P.underlying t = some (.slice (P.elem t)) := by rw [hel]; exact ht
    obtain ⟨i, hi1, hi2⟩ := Option.map_eq_some_iff.1 hi
    rw [run_slice_l W t A n c hu .i64 (m : Int) (Int.natCast_nonneg _) (by omega), hel]
    simp [sizeOf, typeInfo, hi1, hi2, sliced, Result.andThen]
  · refine ⟨by rw [List.length_drop, h.1, Nat.sub_mul], fun hn => ?_⟩
    obtain ⟨g, off, rfl, h1, h2, hcell⟩ := h.2 (by omega)
    rw [if_neg (by omega)]
    by_cases h0 : m * size = 0
    · refine ⟨g, off, by simp [Addr.add, h0], h1, h2, fun j u hu => hcell j u ?_⟩
      rw [h0] at hu; simpa using hu
    · refine ⟨g, off + m * size, by simp [Addr.add, h0], h1, h2, fun j u hu => ?_⟩
      rw [Nat.add_assoc]
      exact hcell (m * size + j) u (by rw [← hu, List.getElem?_drop])
end Go.Proofs.Ytnlcndlfdnogaaa.Rg
