/- RlpMeans: whatever nodes, number, word and bounds come in, the law answers true and leaves them alone. Condition: the arguments' bulk is at most 1048576 (the second form). -/
import Derived.Test.YtkdpphcalekbdaaB18
import Derived.Test.YtkdpphcalekbdaaO
set_option linter.unusedVariables false
set_option linter.unusedSimpArgs false
namespace Go.Proofs.Ytkdpphcalekbdaa.B19
open Go.ChangeShapes Go.WideShapes Go.ChangeAt Go.RowKit
open M
theorem own : ownKnob Try.prog.godebug = none := by kernel_rfl
theorem bulk_le {H : Type} {l : List (DataW H)} (hk : Rows.uptoSmall H l = true) : Rows.uptoBulkAll l ≤ 1048576 := of_decide_eq_true hk
set_option maxRecDepth 100000 in
theorem contract (H : Type) (enc : TypeId × Value → H) (W : World) (base : Nat) (args : Array Value) (ds gs : List (DataW H)) (before : List MemPlace)
    (hval : ∀ (j : Nat) t v, Try.f11.params[j]? = some t → args[j]? = some v → Value.okWide Try.prog W .any base t v)
    (hW : DataW.Whole enc Try.prog Try.f11.params.toList Rows.rlpMeansSpec.vars false W args.toList ds gs before) (hk : Rows.uptoSmall H (ds ++ gs) = true) :
    Calls Try.prog 11 args W fun e W' => ∃ v, e = .returned v ∧ Rows.rlpMeansSpec.post enc Try.prog Try.f11 false true false false W args v W' := by
  have hW' := hW
  obtain ⟨p, q, hA0, hV, rfl, hfz, hnd⟩ := hW
  have hA : DataW.TrodAll enc Try.prog W 0 (fun _ => true) true Try.f11.params.toList args.toList ds p := hA0
  rw [Try.params11] at hA hval
  obtain ⟨v0, vs0, d0, ds0, p0, q0, hargs, rfl, rfl, h0, r0⟩ := trodAll_cons hA
  obtain ⟨v1, vs1, d1, ds1, p1, q1, rfl, rfl, rfl, h1, r1⟩ := trodAll_cons r0
  obtain ⟨v2, vs2, d2, ds2, p2, q2, rfl, rfl, rfl, h2, r2⟩ := trodAll_cons r1
  obtain ⟨v3, vs3, d3, ds3, p3, q3, rfl, rfl, rfl, h3, r3⟩ := trodAll_cons r2
  obtain ⟨v4, vs4, d4, ds4, p4, q4, rfl, rfl, rfl, h4, r4⟩ := trodAll_cons r3
  obtain ⟨rfl, rfl, rfl⟩ := trodAll_nil r4
  obtain rfl : args = #[v0, v1, v2, v3, v4] := by cases args; simp_all
  obtain ⟨rfl, rfl⟩ := trodVars_none hV
  obtain ⟨l0, hl0, hlb0⟩ := O.open_nodes (hval 0 22 v0 rfl rfl) h0
  obtain ⟨n1, rfl, hn1⟩ := O.open_num55 (hval 1 55 v1 rfl rfl) h1
  obtain ⟨a2, b2, c2, e2, rfl, ha2, hb2, hc2, he2⟩ := O.open_word (hval 2 57 v2 rfl rfl) h2
  obtain ⟨n3, rfl, hn3⟩ := O.open_num3 (hval 3 3 v3 rfl rfl) h3
  obtain ⟨n4, rfl, hn4⟩ := O.open_num3 (hval 4 3 v4 rfl rfl) h4
  have hbk := bulk_le hk
  simp only [List.append_nil, Rows.uptoBulkAll] at hbk
  refine (B18.means11 (fun b => b < W.heap.size) v0 l0 n1 a2 b2 c2 e2 n3 n4 W hl0 (fun _ h => h) (by omega) hn1 ha2 hb2 hc2 he2).mono fun e W' ⟨he, hg⟩ => ?_
  subst he
  exact ⟨_, rfl, O.law_post (fun t ht => by rw [Try.params11] at ht; simp at ht; rcases ht with rfl | rfl | rfl | rfl | rfl <;> exact ⟨by kernel_rfl, of_decide_eq_true (by kernel_rfl)⟩) (by kernel_rfl) rfl rfl hW' hg⟩
set_option maxRecDepth 100000 in
theorem lifted (os : Os) (started : os.Started) (H : Type) (enc : TypeId × Value → H) (F : Stop.Interp) :
    ReturnsInHanded {} Try.checked os 11 .any ((Rows.OpenSpec.upto Rows.rlpMeansSpec).pre6 enc Try.prog Try.f11 Rows.rlpMeansUptoRow.domain false) (((Rows.OpenSpec.upto Rows.rlpMeansSpec).at F).post enc Try.prog Try.f11 false true false false) := by
  refine returnsInHanded_of_cond (C := Try.checked) (s := Rows.OpenSpec.upto Rows.rlpMeansSpec) (k := Rows.uptoSmall) rfl own started (by kernel_rfl) Try.func11
    (OpenSpec.witness (enc := enc) (C := Try.checked) (s := Rows.OpenSpec.upto Rows.rlpMeansSpec) (k := Rows.uptoSmall) rfl false ⟨#[], #[.slice none 0 0, .int .u64 0, .agg #[.int .u64 0, .int .u64 0, .int .u64 0, .int .u64 0], .int .i64 0, .int .i64 0], []⟩ 8 (by kernel_rfl) (by kernel_rfl) (by kernel_rfl)
      (x := ([.nil, .lit (.int .u64 0), .agg [.lit (.int .u64 0), .lit (.int .u64 0), .lit (.int .u64 0), .lit (.int .u64 0)], .lit (.int .i64 0), .lit (.int .i64 0)], [], [])) (by kernel_rfl) rfl (by kernel_rfl)) ?_
  intro W base args ds gs before hval hW _ hk _
  exact contract H enc W base args ds gs before hval hW hk
end Go.Proofs.Ytkdpphcalekbdaa.B19
namespace Go.Proofs.Ytkdpphcalekbdaa
theorem rlpMeans : Rows.RlpMeansUptoSaid :=
  OpenClaim.holds_of_cond 11 Try.f11 rfl rfl rfl rfl rfl rfl rfl ⟨rfl, rfl, rfl, rfl, rfl⟩ rfl rfl rfl rfl rfl (by kernel_rfl) Try.func11 (by kernel_rfl)
    (of_decide_eq_true (by kernel_rfl)) (by unfold Func.isWrapper; first | (rw [if_pos (by decide +kernel)]; kernel_rfl) | (rw [if_neg (by decide +kernel)]; exact ⟨rfl, rfl⟩))
    (fun os started H enc _ F => B19.lifted os started H enc F)
#print axioms rlpMeans
end Go.Proofs.Ytkdpphcalekbdaa
