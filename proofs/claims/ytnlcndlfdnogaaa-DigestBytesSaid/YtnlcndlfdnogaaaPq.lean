/- The reference's primes, walked. -/
import Derived.Test.YtnlcndlfdnogaaaS1
import Derived.Test.YtnlcndlfdnogaaaBl
set_option linter.unusedVariables false
set_option linter.unusedSimpArgs false
namespace Go.Proofs.Ytnlcndlfdnogaaa.Pq
open Go.RowKit
open D0 M D2 D3 Rg K1 C1 S1 Bl
/-- Whether a number is divided by none of the list. -/
def prS (l : List Nat) (n j : Nat) (b : Bool) : Bool := b && (n % gt l 0 j != 0)
def isP (l : List Nat) (n : Nat) : Bool := it (prS l n) l.length true
/-- The primes below k + 2. -/
def prF : Nat → List Nat
  | 0 => []
  | k + 1 => if isP (prF k) (k + 2) then prF k ++ [k + 2] else prF k
def mu (l : List Nat) : List Value := l.map fun (x : Nat) => .int .u64 (x : Int)
def PR : List Nat := prF 310
set_option maxRecDepth 1000000 in
theorem pr_ok : (∀ k : Fin 310, (prF k.1).length < 64) ∧ (prF 310).length = 64 ∧ (∀ k : Fin 311, ((prF k.1).all fun x => decide (1 < x) && decide (x < 400)) = true) := by decide +kernel
theorem mu_get (l : List Nat) (i : Nat) (h : i < l.length) : (mu l)[i]? = some (.int .u64 ((gt l 0 i : Nat) : Int)) := by simp [mu, gt, List.getElem?_eq_getElem h, List.getD]
theorem info32 : (Try.prog.info? 32).map (fun i => (i.zero, i.size, i.bytes)) = some (some (.int .u64 0), 1, 8) := by kernel_rfl
theorem mu_one (l : List Nat) : ∀ u ∈ mu l, u.oneCell' = true := by
  intro u hu
  simp only [mu, List.mem_map] at hu
  obtain ⟨b, _, rfl⟩ := hu
  rfl
theorem big (l : List Nat) (h : (l.all fun x => decide (1 < x) && decide (x < 400)) = true) (i : Nat) (hi : i < l.length) : 1 < gt l 0 i ∧ gt l 0 i < 400 := by
  have := List.all_eq_true.1 h _ (List.getElem_mem hi)
  have e : gt l 0 i = l[i] := by simp [gt, List.getD, List.getElem?_eq_getElem hi]
  rw [e]
  simpa using this
theorem pr_zero : prF 0 = [] := rfl
theorem own_shape {W : World} {base : Nat} {e : TypeId} {size n : Nat} {v : Value} {xs : List Value} (h : W.ownsRow base e size v n xs) : ∃ A c, v = .slice A n c := by
  rcases h.2 with ⟨hv, h0⟩ | ⟨g, cap, cur, hv, _⟩
  · exact ⟨none, 0, by rw [hv, h0]⟩
  · exact ⟨_, _, hv⟩
theorem pr_succ (k : Nat) : prF (k + 1) = if isP (prF k) (k + 2) then prF k ++ [k + 2] else prF k := rfl
theorem isP_def (l : List Nat) (n : Nat) : isP l n = it (prS l n) l.length true := rfl
theorem it_z {σ : Type} (f : Nat → σ → σ) (s : σ) : it f 0 s = s := rfl
theorem rd_lit64 (W : World) (x : Value) : Rd (W.alloc (.cells #[x] 32)) 0 (W.heap.size + 1) 1 (some ⟨W.heap.size, 0, none⟩) 1 [x] := by
  refine ⟨rfl, fun _ => ⟨W.heap.size, 0, rfl, by omega, by omega, fun j u hu => ?_⟩⟩
  have h := (Arr.new W [x] 32).cell hu
  rwa [Nat.zero_add]
theorem ncast (n d : Nat) : ((n : Int) % (d : Int) != 0) = (n % d != 0) := by
  have e : (n : Int) % (d : Int) = ((n % d : Nat) : Int) := rfl
  rw [e]
  by_cases h : n % d = 0
  · rw [h]; rfl
  · have h2 : ¬ ((n % d : Nat) : Int) = 0 := by omega
    simp only [bne, beq_eq_false_iff_ne.2 h, beq_eq_false_iff_ne.2 h2]
theorem it_z' (f : Nat → Bool → Bool) (s : Bool) : it f 0 s = s := rfl
attribute [local irreducible] it prF isP gt
set_option maxRecDepth 100000 in
set_option maxHeartbeats 4000000 in
theorem primes33 (w : World) : Calls Try.prog 33 #[.int .i64 64] w fun e w' => ∃ v, e = .returned v ∧ w'.ownsRow w.heap.size 32 1 v 64 (mu PR) ∧ Below w.heap.size w w' := by
  have OK1 : Hid (∀ k, k < 310 → (prF k).length < 64) := fun k hk => pr_ok.1 ⟨k, hk⟩
  have OK2 : Hid ((prF 310).length = 64) := pr_ok.2.1
  have OK3 : Hid (∀ k, k ≤ 310 → ((prF k).all fun x => decide (1 < x) && decide (x < 400)) = true) := fun k hk => pr_ok.2.2 ⟨k, by omega⟩
  have OK4 : Hid (∀ k, k ≤ 310 → (prF k).length ≤ 64) := fun k hk => by
    rcases Nat.lt_or_ge k 310 with h | h
    · exact Nat.le_of_lt (OK1.out k h)
    · obtain rfl : k = 310 := by omega
      exact Nat.le_of_eq OK2.out
  have H0 : Hid (w.ownsRow w.heap.size 32 1 (.slice none 0 0) (prF 0).length (mu (prF 0))) := show World.ownsRow _ _ _ _ _ _ _ by rw [pr_zero]; exact World.ownsRow_nil _ _ _ _
  go_enter Try.func33, Try.ntmps33
  go_wp2_with fail
  go_loopw [3, 4] (fun v n wr => ∃ k : Nat, k ≤ 310 ∧ n = .int .u64 ((k + 2 : Nat) : Int) ∧ wr.ownsRow w.heap.size 32 1 v (prF k).length (mu (prF k)) ∧ Below w.heap.size w wr) (fun _ n _ => 312 - (intOf n).toNat)
  case atStart => exact ⟨0, by omega, rfl, H0.out, Below.refl _ _⟩
  obtain ⟨k, hk, rfl, ho, hb⟩ := hrel
  clear H0
  obtain ⟨n, hn⟩ : ∃ n, n = k + 2 := ⟨_, rfl⟩
  rw [← hn]
  have hl64 := OK4.out k hk
  have hall := OK3.out k hk
  have hps := pr_succ k
  rw [← hn] at hps
  have HPS := Lib.hid hps
  have HO := Lib.hid ho
  have HB := Lib.hid hb
  obtain ⟨Av, cv, rfl⟩ := own_shape ho
  clear ho hb hps
  generalize hls : prF k = ls at *
  have HLS := Lib.hid hls
  have HALL := Lib.hid hall
  clear hls hall
  rcases Nat.lt_or_ge k 310 with hlt | hge
  rotate_left
  · obtain rfl : k = 310 := by omega
    have e64 : ls.length = 64 := by rw [← HLS.out]; exact OK2.out
    have f64 : decide ((ls.length : Int) < 64) = false := decide_eq_false (by omega)
    generalize hml : ls.length = ml at *
    have HML := Lib.hid hml
    subst e64
    clear hml f64
    go_wp2_with fail
    go_ret
    refine ⟨_, rfl, ?_, HB.out⟩
    have := HO.out
    rw [← HLS.out] at this
    exact this
  · have l64 := OK1.out k hlt
    rw [HLS.out] at l64
    obtain ⟨ml, hml⟩ : ∃ ml, ml = ls.length := ⟨_, rfl⟩
    have HML := Lib.hid hml
    rw [← hml] at l64 hl64 HO ⊢
    clear hml
    have f64 : decide ((ml : Int) < 64) = true := decide_eq_true (by omega)
    have HK := Lib.hid hlt
    have HNK := Lib.hid hn
    have hnb : n < 400 := by omega
    clear hn
    go_wp2_with fail
    clear f64
    obtain ⟨w0, hw0⟩ : ∃ w0 : World, w0 = wr := ⟨_, rfl⟩
    have HO : Hid (w0.ownsRow w.heap.size 32 1 (.slice Av ml cv) ml (mu ls)) := show World.ownsRow _ _ _ _ _ _ _ by rw [hw0]; exact HO.out
    have HB : Hid (Below w.heap.size w w0) := show Below _ _ _ by rw [hw0]; exact HB.out
    have HW0 := Lib.hid hw0
    rw [← hw0]
    clear hw0
    have HML2 := Lib.hid (show ml ≤ 64 from hl64)
    go_loopw [5, 16] (fun b iv W => ∃ j : Nat, j ≤ ml ∧ iv = .int .i64 (j : Int) ∧ b = .bool (it (prS ls n) j true) ∧ W = w0) (fun _ iv _ => ml - (intOf iv).toNat)
    case atStart => exact ⟨0, by omega, rfl, by rw [it_z'], rfl⟩
    obtain ⟨j, hj, rfl, rfl, rfl⟩ := hrel
    have HST := Lib.hid (it_succ (prS ls n) j true)
    generalize hit : it (prS ls n) j true = b at *
    have HIT := Lib.hid hit
    clear hit
    rcases Nat.lt_or_ge j ml with hlt | hge
    · have HJ := Lib.hid hlt
      obtain ⟨g, off, rfl, _, _, hcell⟩ := Rd.at_ (Rd.of_own HO.out) hlt
      obtain ⟨d, hd⟩ : ∃ d, d = gt ls 0 j := ⟨_, rfl⟩
      have hbg := big ls HALL.out j (by rw [← HML.out]; exact hlt)
      rw [← hd] at hbg
      have hc : wr.cell? ⟨g, off + j, none⟩ = some (.int .u64 (d : Int)) := by
        rw [hcell]
        congr 1
        have e := mu_get ls j (by rw [← HML.out]; exact hlt)
        rw [List.getElem?_eq_getElem (by simp [mu]; rw [← HML.out]; exact hlt)] at e
        rw [hd]
        exact Option.some.inj e
      have HD : Hid (gt ls 0 j = d) := hd.symm
      clear hcell hd
      have hd0 : ¬ (d : Int) = 0 := by omega
      cases b
      · go_wp2_with fail
        have hlt := HJ.out
        go_roundw
        case rel => exact ⟨j + 1, by omega, by go_num, by rw [HST.out]; rfl, trivial⟩
        case measure => simp [intOf]; omega
      · go_wp2_with fail
        have hlt := HJ.out
        go_roundw
        case rel =>
          refine ⟨j + 1, by omega, by go_num, ?_, trivial⟩
          rw [HST.out]
          unfold prS
          rw [HD.out, Bool.true_and]
          exact congrArg Value.bool (ncast n d)
        case measure => simp [intOf]; omega
    obtain rfl : j = ml := by omega
    have hip : isP ls n = b := by rw [isP_def, ← HML.out]; exact HIT.out
    have hwn : IntKind.u64.wrap ((n : Int) + 1) = ((n + 1 : Nat) : Int) := by rw [wrap_u64]; omega
    have hlt := HK.out
    have hnk := HNK.out
    cases b
    · have HPN : Hid (prF (k + 1) = ls) := show _ = _ by rw [HPS.out, hip]; rfl
      clear hip HST HIT HNK
      have HNK := Lib.hid hnk
      clear hnk
      go_wp2_with fail
      have hnk := HNK.out
      go_roundw
      case rel =>
        refine ⟨k + 1, by omega, by first | go_num | (congr 1; omega), ?_, HB.out⟩
        rw [HPN.out, ← HML.out]
        exact HO.out
      case measure => simp [intOf]; omega
    · have HPN : Hid (prF (k + 1) = ls ++ [n]) := show _ = _ by rw [HPS.out, hip]; rfl
      clear hip HST HIT HNK
      have HNK := Lib.hid hnk
      clear hnk
      have hm3 : j + 1 ≤ maxLen := by have := HML2.out; unfold maxLen; omega
      have hm4 : (j + 1) * 8 ≤ 140737488355328 := by have := HML2.out; omega
      have HOL : Hid (∀ o, (wr.alloc o).ownsRow w.heap.size 32 1 (.slice Av j cv) j (mu ls)) := fun o => own_keep HO.out fun k hk => Below.heap_alloc _ _ _ (own_lt HO.out k hk).2
      have HBL : Hid (∀ o, Below w.heap.size w (wr.alloc o)) := fun o => HB.out.alloc HB.out.size o
      go_wp2_with (first
        | (at_builtin
           refine wp_append rfl (.tmp 29) (.tmp 31) 67 32 (.int .u64 0) 1 8 rfl Try.underlying67 info32 rfl (by omega) w.heap.size 0 (wr.heap.size + 1) (.slice Av j cv) j (mu ls) (some ⟨wr.heap.size, 0, none⟩) 1 1 [.int .u64 (n : Int)] rfl rfl (HOL.out _) (rd_lit64 _ _) (mu_one [n]) hm3 hm4 (HBL.out _).size ?_
           intro v5 w5 ho5 hg5 hb5
           have HO5 : Hid (w5.ownsRow w.heap.size 32 1 v5 (prF (k + 1)).length (mu (prF (k + 1)))) := show World.ownsRow _ _ _ _ _ _ _ by
             rw [HPN.out, List.length_append, ← HML.out]
             unfold mu
             rw [List.map_append]
             exact ho5
           have HB5 : Hid (Below w.heap.size w w5) := (HBL.out _).grown hg5 (HBL.out _).size fun k hk => (own_lt HO.out k hk).1
           clear ho5 hg5 hb5))
      have hnk := HNK.out
      go_roundw
      case rel => exact ⟨k + 1, by omega, by first | go_num | (congr 1; omega), HO5.out, HB5.out⟩
      case measure => simp [intOf]; omega
end Go.Proofs.Ytnlcndlfdnogaaa.Pq
