/- A region that draws its order, its head only reading, its tail in one forced order: the plain walk of the text's order serves every order. -/
import Derived.StillTail
import Derived.Still
import Derived.WalkKit
import Derived.Test.YtkdpphcalekbdaaM
set_option linter.unusedVariables false
set_option linter.unusedSimpArgs false
namespace Go.Proofs.Ytkdpphcalekbdaa.M

/-- An operation that yields a value or nothing, calls no function and is no defer. -/
def valOp : Op → Bool
  | .move _ | .assign _ | .pick .. | .load .. | .binOp .. | .unOp .. | .convert .. | .slice .. | .fieldAddr .. | .field .. | .indexAddr .. | .index .. | .extract .. | .build .. => true
  | .call { callee := .builtin .len, .. } => true
  | .call { callee := .builtin .cap, .. } => true
  | _ => false

/-- What an operation's run may be. -/
def Plain : Result Next → Prop
  | .ok (.value _) _ => True
  | .ok .skip _ => True
  | .halt _ _ => True
  | _ => False

theorem plain_value {P : Program} (s : Sem Value) (w : World) : Plain ((do pure (.value (← s)) : Sem Next).run P w) := by
  rw [Sem.run_bind]
  cases s.run P w <;> simp [Result.andThen, Plain]

theorem plain_of {P : Program} {o : Oper} (h : valOp o.op = true) (ρ : Operand → Value) (w : World) : Plain ((execOp ρ o).run P w) := by
  unfold execOp
  cases ho : o.op <;> simp only [ho, valOp] at h ⊢ <;> first
    | (exact plain_value _ w)
    | (simp [Plain]; done)
    | (cases h; done)
    | skip
  case pick c a b =>
    rw [Sem.run_bind]
    cases (asBool (ρ c)).run P w <;> simp [Result.andThen, Plain]
  case call c =>
    obtain ⟨callee, args, argTypes⟩ := c
    cases callee with
    | value f => simp at h
    | invoke r m => simp at h
    | builtin b => cases b <;> simp at h <;> (simp only [resolve, invoke, builtin, Sem.run_bind, Sem.run_pure, Result.andThen_ok]; generalize Sem.run P _ w = r; cases r <;> simp [Result.andThen, Plain])

section
variable {P : Program} {ops : Array Oper} {w : World}
/-- The head's walk: each operation leaves the world w. -/
def wpS (P : Program) (ops : Array Oper) (w : World) (Q : Act → Prop) : List Oper → Act → Prop
  | [], a => Q a
  | o :: rest, a => if Region.wanted o (yielded ops a.tmps) then o.wp P a w (fun a' w' => w' = w ∧ wpS P ops w Q rest a') (fun _ _ _ => False) else wpS P ops w Q rest (a.put o.dst undef)

theorem wpS_nil {Q : Act → Prop} {a : Act} (h : Q a) : wpS P ops w Q [] a := h
theorem wpS_plain {Q : Act → Prop} {a : Act} {o : Oper} {rest : List Oper} (hg : o.guard = none)
    (h : ∀ K : Act → World → Prop, (∀ a, wpS P ops w Q rest a → K a w) → o.wp P a w K (fun _ _ _ => False)) : wpS P ops w Q (o :: rest) a := by
  unfold wpS
  rw [if_pos (by simp [Region.wanted, hg])]
  exact h _ (fun _ h => ⟨rfl, h⟩)
theorem wpS_step {Q : Act → Prop} {a : Act} {o : Oper} {rest : List Oper}
    (h : ∀ K : Act → World → Prop, (∀ a, wpS P ops w Q rest a → K a w) → if Region.wanted o (yielded ops a.tmps) then o.wp P a w K (fun _ _ _ => False) else K (a.put o.dst undef) w) : wpS P ops w Q (o :: rest) a := by
  have := h (fun a' w' => w' = w ∧ wpS P ops w Q rest a') (fun _ h => ⟨rfl, h⟩)
  unfold wpS
  split
  · rename_i hw; rw [if_pos hw] at this; exact this
  · rename_i hw; rw [if_neg hw] at this; exact this.2

theorem still_of_wpS {Q : Act → Prop} : ∀ (l : List Oper) (a : Act), (l.all fun o => valOp o.op) = true → wpS P ops w Q l a → wpStill P ops w Q l a
  | [], a, _, h => h
  | o :: rest, a, hv, h => by
    simp only [List.all_cons, Bool.and_eq_true] at hv
    unfold wpS at h
    unfold wpStill
    split
    · rename_i hw
      rw [if_pos hw] at h
      have hp := plain_of (P := P) hv.1 a.eval w
      unfold Oper.wp at h
      unfold Oper.still
      generalize (execOp a.eval o).run P w = r at h hp
      cases r with
      | ok n w' =>
        cases n <;> simp only [Plain] at hp <;> simp only [Oper.upon] at h <;> simp only [Oper.stillUpon]
        all_goals exact ⟨h.1, still_of_wpS rest _ hv.2 h.2⟩
      | halt x w' => cases x <;> simp only [Oper.upon] at h
    · rename_i hw
      rw [if_neg hw] at h
      exact still_of_wpS rest _ hv.2 h

/-- **The region by the plain walk**: n operations that only read, then the tail in its one order. -/
theorem wp_region_seq {id : Nat} {Q : Exit → Act → World → Prop} {a : Act} {w : World} {l : List Oper} (n : Nat) (hm : P.follows .mixedOrders = true) (hB : Region.lexTailB .any l.toArray n = true) (hv : ((l.take n).all fun o => valOp o.op) = true)
    (h : wpS P l.toArray w.drew (fun a' => wpList P l.toArray Q (l.drop n) a' w.drew) (l.take n) a) : (Code.region id l.toArray true).wp P Q a w :=
  wp_region_still_tail n hm hB (still_of_wpS _ _ hv h)
/-- The same where all operations only read. -/
theorem wp_region_reads {id : Nat} {Q : Exit → Act → World → Prop} {a : Act} {w : World} {l : List Oper} (hm : P.follows .mixedOrders = true) (hB : Region.lexB .any l.toArray = true) (hv : (l.all fun o => valOp o.op) = true)
    (h : wpS P l.toArray w.drew (fun a' => Q .normal a' w.drew) l a) : (Code.region id l.toArray true).wp P Q a w :=
  wp_region_still_lit hm hB (still_of_wpS _ _ hv h)
end

/-- 's[m:]' without a case on the capacity. -/
theorem cut_slice {P : Program} (t e size : Nat) (ht : P.underlying t = some (.slice e)) (hi : (P.info? e).map (·.size) = some size) (A : Option Addr) (n c m : Nat) (mi : Int) (hmi : mi = (m : Int)) (hm : m ≤ n) :
    ∃ A' : Option Addr, (∀ W : World, (Instr.slice t (.slice A n c) (some (.int .i64 mi)) none none).run P W = .ok (.slice A' (n - m) (c - m)) W) ∧
      ∀ (w : World) (lo hi : Nat) (xs : List Value), n ≤ c → Rd w lo hi size A n xs → Rd w lo hi size A' (n - m) (xs.drop (m * size)) := by
  subst hmi
  refine ⟨if c = m then A else A.map (·.add (m * size)), fun W => ?_, fun w lo hi xs hc h => ?_⟩
  · have hel : P.elem t = e := by simp [Program.elem, ht]
    have hu : P.underlying t = some (.slice (P.elem t)) := by rw [hel]; exact ht
    obtain ⟨i, hi1, hi2⟩ := Option.map_eq_some_iff.1 hi
    rw [run_slice_l W t A n c hu .i64 (m : Int) (Int.natCast_nonneg _) (by omega), hel]
    simp [sizeOf, typeInfo, hi1, hi2, sliced, Result.andThen]
  · refine ⟨by rw [List.length_drop, h.1, Nat.sub_mul], fun hn => ?_⟩
    obtain ⟨g, off, rfl, h1, h2, hcell⟩ := h.2 (by omega)
    rw [if_neg (by omega)]
    by_cases h0 : m * size = 0
    · refine ⟨g, off, by simp [Addr.add, h0], h1, h2, fun j u hu => hcell j u ?_⟩
      rw [h0] at hu; simpa using hu
    · refine ⟨g, off + m * size, by simp [Addr.add, h0], h1, h2, fun j u hu => ?_⟩
      rw [Nat.add_assoc]
      exact hcell (m * size + j) u (by rw [← hu, List.getElem?_drop])
end Go.Proofs.Ytkdpphcalekbdaa.M
