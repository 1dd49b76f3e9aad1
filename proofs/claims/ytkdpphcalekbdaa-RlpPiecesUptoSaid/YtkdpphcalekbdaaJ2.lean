/- A region that only reads, under any fence (in a round too). -/
import Derived.Test.YtkdpphcalekbdaaB11
import Derived.OrdersIn
import Derived.AtR
set_option linter.unusedVariables false
set_option linter.unusedSimpArgs false
namespace Go.Proofs.Ytkdpphcalekbdaa.J2
open M W1 G1 L1 T4 B11
section
variable {P : Program} {ops : Array Oper} {w : World} {F : Fence} {n : Nat}
theorem about_of {o : Oper} (h : valOp o.op = true) (w : World) (ρ : Operand → Value) : o.about P w ρ = none := by
  unfold Oper.about
  cases ho : o.op <;> simp only [ho, valOp] at h ⊢
  case call c =>
    obtain ⟨callee, args, argTypes⟩ := c
    cases callee with
    | value f => simp at h
    | invoke r m => simp at h
    | builtin b => cases b <;> simp at h <;> simp [resolve, Target.leads, Sem.run_pure]
theorem sem_of {o : Oper} (h : valOp o.op = true) (ro : Option Nat) (ρ : Operand → Value) : Oper.semAt ro ρ o = execOp ρ o :=
  Oper.semAt_eq ro ρ o (fun c hc => by rw [hc] at h; simp [valOp] at h)
theorem wpIn_of_still {o : Oper} {a : Act} {K : Act → Prop} {K' : Act → World → Prop} {Q' : Exit → Act → World → Prop} (hv : valOp o.op = true) (h : ∀ a, K a → K' a w) (hh : o.still P a w K) : o.wpIn F n P a w K' Q' := by
  have hp := plain_of (P := P) hv a.eval w
  unfold Oper.still at hh
  unfold Oper.wpIn
  rw [sem_of hv]
  refine ⟨fun f hf => (by rw [about_of hv] at hf; cases hf), ?_⟩
  generalize (execOp a.eval o).run P w = r at *
  cases r with
  | ok x w' =>
    cases x <;> simp only [Plain] at hp <;> simp only [Oper.stillUpon] at hh <;> simp only [Oper.uponIn]
    all_goals (obtain ⟨rfl, h2⟩ := hh; exact h _ h2)
  | halt x w' => simp only [Oper.stillUpon] at hh
theorem wpOpIn_of_stOp {i : Nat} {a : Act} {K : Act → Prop} {K' : Act → World → Prop} {Q' : Exit → Act → World → Prop} (hv : ∀ (i : Nat) (o : Oper), ops[i]? = some o → valOp o.op = true) (h : ∀ a, K a → K' a w) (hh : stOp P ops w i K a) : wpOpIn F n P ops Q' i K' a w := by
  unfold stOp at hh
  unfold wpOpIn
  split
  · rename_i ho; simp only [ho] at hh; exact h _ hh
  · rename_i o ho
    simp only [ho] at hh
    split
    · rename_i hw; simp only [hw, if_true] at hh; exact wpIn_of_still (hv _ _ ho) h hh
    · rename_i hw; simp only [hw] at hh; exact ⟨fun f hf => (by rw [about_of (hv _ _ ho)] at hf; cases hf), h _ hh⟩
theorem wpAnyIn_of_still {md : Region.Mode} {Q : Act → Prop} {Q' : Exit → Act → World → Prop} (hv : ∀ (i : Nat) (o : Oper), ops[i]? = some o → valOp o.op = true) (hQ : ∀ a, Q a → Q' .normal a w) : ∀ (fuel : Nat) (listed : Array Bool) (a : Act),
    wpAnyS P md ops w Q fuel listed a → wpAnyIn F n P md ops Q' fuel listed a w
  | 0, _, _, h => ⟨h.1, hQ _ h.2⟩
  | fuel + 1, _, _, h => ⟨fun h0 => hQ _ (h.1 h0), fun i hi => wpOpIn_of_stOp hv (fun a' => wpAnyIn_of_still hv hQ fuel _ a') (h.2 i hi)⟩
theorem wpIn_region_reads2 {id : Nat} {Q : Exit → Act → World → Prop} {a : Act} {w : World} {l : List Oper} (hm : P.follows .mixedOrders = true) (hB : Region.lexB .any l.toArray = true)
    (hv : l.all (fun o => valOp o.op) = true)
    (h : wpS2 P l.toArray w.drew (fun a' => Q .normal a' w.drew) l a) : (Code.region id l.toArray true).wpIn F n P Q a w := by
  simp only [Region.lexB, Bool.and_eq_true] at hB
  refine wpIn_region_any hm (wpAnyIn_of_still (Q := fun a' => Q .normal a' w.drew) (fun i o ho => ?_) (fun _ h => h) _ _ _ ?_)
  · have : o ∈ l := by
      rw [List.getElem?_toArray] at ho
      exact List.mem_of_getElem? ho
    exact List.all_eq_true.1 hv o this
  · have := wpAnyS_lex (md := .any) hB.1 l 0 (Array.replicate l.toArray.size false) a (by simp) (by simpa using hB.2) (still_of_wpS2 _ _ h)
    simpa using this
end
end Go.Proofs.Ytkdpphcalekbdaa.J2
