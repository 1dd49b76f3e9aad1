/- What RlpKids asks of a list's pieces. -/
import Derived.Test.YtkdpphcalekbdaaJ1
set_option linter.unusedVariables false
set_option linter.unusedSimpArgs false
namespace Go.Proofs.Ytkdpphcalekbdaa.J3
open Go.ChangeShapes Go.WideShapes Go.ChangeAt Go.RowKit Go.Shelf
open M W1 G1 L1 J1 H4
theorem stops_cast {P : Program} {F : Fence} {k g : Nat} {lb : Array Value} {Kp : World → World → Prop} {w : World} {m n : Nat} (h : m = n) (enc : Fin m → Array Value) (enc' : Fin n → Array Value) (he : ∀ (j : Fin m) (hj : j.1 < n), enc j = enc' ⟨j.1, hj⟩)
    (H : SeqStopsK F k P g lb enc Kp (fun ys => ys = List.finRange m) (fun pre => pre <+: List.finRange m) m w) : SeqStopsK F k P g lb enc' Kp (fun ys => ys = List.finRange n) (fun pre => pre <+: List.finRange n) n w := by
  subst h
  have : enc = enc' := funext fun j => he j j.2
  rwa [this] at H
/-- The pieces of a list's payload, by their numbers. -/
theorem each_kids (d : Nat) (ks : List It) (h : ∀ k ∈ ks, checkF d k = 0 ∧ (formF k).length ≤ 1099511627776) : ∃ pl pf : Fin ks.length → Nat, ∀ (n : Nat) (hn : 1 ≤ n) (Bq : Nat) (A : Option Addr) (len cap : Nat) (T : Nat → Prop) (hln : (formsF ks).length = len) (hl : len ≤ 1073741824) (hc1 : len ≤ cap) (hc2 : cap ≤ 9223372036854775807) (w : World) (hT : ∀ k, T k → k < w.heap.size) (hTq : T Bq)
    (hBs : w.cell? ⟨Bq, 0, none⟩ = some (.slice A len cap)) (hR : RdS w T 1 A len (nums (formsF ks))),
    SeqStopsK Fence.wide n Try.prog 52 #[.pointer (some ⟨Bq, 0, none⟩)] (fun j : Fin ks.length => #[.int .i64 (j.1 : Int), .agg #[.int .i64 (pl j : Int), .int .i64 (pf j : Int), .int .i64 ((formsF (ks.take (j.1 + 1))).length : Int)]]) (KeepT T) (fun ys => ys = List.finRange ks.length) (fun pre => pre <+: List.finRange ks.length) ks.length w := by
  obtain ⟨h1, h2⟩ := pieces_forms d ks h
  refine ⟨fun j => ((pieces (formsF ks))[j.1]'(by rw [h1]; exact j.2)).2.1, fun j => ((pieces (formsF ks))[j.1]'(by rw [h1]; exact j.2)).2.2.1, ?_⟩
  intro n hn Bq A len cap T hln hl hc1 hc2 w hT hTq hBs hR
  subst hln
  refine stops_cast h1 _ _ ?_ (each_stopsF n hn Bq A cap T (formsF ks) hl hc1 hc2 w hT hTq hBs hR)
  intro j hj
  obtain ⟨e1, e2⟩ := h2 j.1 _ (List.getElem?_eq_getElem j.2)
  simp only [pcV]
  rw [e1, e2]
mutual
theorem check_mono : ∀ (x : It) (d : Nat), checkF (d + 1) x = 0 → checkF d x = 0
  | .mk l bs ks, d, h => by
    rw [checkF] at h ⊢
    split at h
    · cases h
    · rename_i h1
      rw [if_neg (by omega)]
      split at h
      · cases h
      · rename_i h2
        rw [if_neg h2]
        exact checks_mono ks (d + 1) h
theorem checks_mono : ∀ (ks : List It) (d : Nat), checksF (d + 1) ks = 0 → checksF d ks = 0
  | [], d, h => rfl
  | k :: ks, d, h => by
    rw [checksF] at h ⊢
    split at h
    · rename_i h1; exact absurd h h1
    · rename_i h1
      have h0 : checkF (d + 1) k = 0 := by omega
      rw [if_neg (by rw [check_mono k d h0]; simp)]
      exact checks_mono ks d h
end
/-- The form of one kid, cut out of the whole. -/
theorem forms_cut (ks : List It) (i : Nat) (hi : i < ks.length) (out : List UInt8) (f : Nat) (hd : out.drop f = formsF ks) (hf : f ≤ out.length) :
    ((out.take (f + (formsF (ks.take (i + 1))).length)).drop (f + (formsF (ks.take i)).length)) = formF (ks[i]'hi) := by
  have e : formsF ks = formsF (ks.take i) ++ (formF (ks[i]'hi) ++ formsF (ks.drop (i + 1))) := by
    conv => lhs; rw [← List.take_append_drop (i + 1) ks]
    rw [formsF_append, formsF_take_succ ks i hi, List.append_assoc]
  rw [formsF_take_succ ks i hi, List.length_append]
  rw [← List.drop_drop, List.drop_take, hd, e, List.drop_take, List.drop_left' rfl]
  rw [show f + ((formsF (ks.take i)).length + (formF (ks[i]'hi)).length) - f - (formsF (ks.take i)).length = (formF (ks[i]'hi)).length by omega]
  rw [List.take_left' rfl]
theorem forms_take_le (ks : List It) (i : Nat) : (formsF (ks.take i)).length ≤ (formsF ks).length := by
  conv => rhs; rw [← List.take_append_drop i ks]
  rw [formsF_append, List.length_append]
  omega
/-- What speaks of blocks below B is the iterator's to keep. -/
theorem own_blocks {β : Type} (B : Nat) (J : β → World → Prop) (h : ∀ s W W', J s W → W.heap.size ≤ W'.heap.size → W'.os = W.os → W'.tape = W.tape → W'.output = W.output → (∀ k, k < W.heap.size → k < B → W'.heap[k]? = W.heap[k]?) → J s W') : OwnFrom B J := fun s W W' row hs hg hr =>
  h s W W' hs hg.size hg.os hg.tape hg.output fun k hk hB => hg.block k hk (fun e => by have := (hr k e.symm).1; omega)
end Go.Proofs.Ytkdpphcalekbdaa.J3
