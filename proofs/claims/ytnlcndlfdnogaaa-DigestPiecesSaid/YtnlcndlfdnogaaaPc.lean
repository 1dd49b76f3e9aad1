/- DigestPieces, walked. (printed by gen_pc.py) -/
import Derived.Test.YtnlcndlfdnogaaaWr
import Derived.Test.YtnlcndlfdnogaaaPz
import Derived.Test.YtnlcndlfdnogaaaZ
set_option linter.unusedVariables false
set_option linter.unusedSimpArgs false
namespace Go.Proofs.Ytnlcndlfdnogaaa.Pc
open Go.RowKit
open D0 M D2 D3 K0 K1 K2 Z Aw N0 N1 Rs Wr
attribute [local go_sem] xor8
/-- A slice of slices of bytes. -/
def Bss (w : World) (v : Value) (bss : List (List Byte)) : Prop :=
  ∃ A c pvs, v = .slice A bss.length c ∧ bss.length ≤ c ∧ c ≤ 9223372036854775807 ∧ pvs.length = bss.length ∧ Rd w 0 w.heap.size 1 A bss.length pvs ∧ ∀ (i : Nat) (b : List Byte) (u : Value), bss[i]? = some b → pvs[i]? = some u → Bs w 0 w.heap.size u b
theorem neqptr (w : World) (p : Option Addr) : (binOp .neq 36 (.pointer p) (.pointer p)).run Try.prog w = .ok (.bool false) w := by
  cases p with
  | none => kernel_rfl
  | some a =>
    obtain ⟨j, hj⟩ : ∃ j, Try.prog.info? 38 = some j := Option.isSome_iff_exists.1 (by kernel_rfl)
    have h : ∀ d : Nat, (Op.equalIn (d + 1) 36 (.pointer (some a)) (.pointer (some a))).run Try.prog w = .ok true w := fun d => by
      simp [Op.equalIn, run_underlying Try.underlying36, sizeOf, typeInfo, hj, run_sameAddr_same]
    simp only [binOp]
    simp [Op.equal, Op.maxDepth, h 9999]
/-- What the law holds: all the bytes, the sponge, the piece's copy. -/
structure St (w W : World) (gs : Nat) (av sv mv : Value) (xs ys ms : List Byte) : Prop where
  B : Below w.heap.size w W
  hg : w.heap.size ≤ gs
  G : W.heap[gs]? = some (.cells #[.int .i64 1, sv] 38 (0, 0))
  A : Own W w.heap.size av xs
  S : Own W w.heap.size sv ys
  Mn : Own W w.heap.size mv ms
  d1 : sv.ownBlock ≠ some gs
  d2 : av.ownBlock ≠ some gs
  d3 : mv.ownBlock ≠ some gs
  d4 : ∀ k, av.ownBlock = some k → sv.ownBlock ≠ some k
  d5 : ∀ k, mv.ownBlock = some k → av.ownBlock ≠ some k ∧ sv.ownBlock ≠ some k
section
variable {w W W' : World} {gs : Nat} {av av' sv sv' mv mv' : Value} {xs xs' ys ys' ms ms' : List Byte}
theorem own_lt' (h : Own W w.heap.size av xs) : ∀ k, av.ownBlock = some k → w.heap.size ≤ k ∧ k < W.heap.size := own_lt h
theorem own_nil (W : World) (base : Nat) : Own W base (.slice none 0 0) [] := World.ownsRow_nil _ _ _ _
theorem St.gl (f : St w W gs av sv mv xs ys ms) : gs < W.heap.size := (Array.getElem?_eq_some_iff.1 f.G).1
theorem St.drew (f : St w W gs av sv mv xs ys ms) : St w W.drew gs av sv mv xs ys ms := ⟨f.B.drew, f.hg, f.G, own_keep f.A fun _ _ => rfl, own_keep f.S fun _ _ => rfl, own_keep f.Mn fun _ _ => rfl, f.d1, f.d2, f.d3, f.d4, f.d5⟩
theorem St.later (f : St w W gs av sv mv xs ys ms) (hb : Below W.heap.size W W') : St w W' gs av sv mv xs ys ms := by
  have gl := f.gl
  obtain ⟨B, hg, G, A, S, Mn, d1, d2, d3, d4, d5⟩ := f
  exact ⟨B.trans (hb.mono B.size), hg, (hb.block _ gl).trans G, own_keep A fun k hk => hb.block k (own_lt A k hk).2, own_keep S fun k hk => hb.block k (own_lt S k hk).2, own_keep Mn fun k hk => hb.block k (own_lt Mn k hk).2, d1, d2, d3, d4, d5⟩
theorem St.mine (f : St w W gs av sv mv xs ys ms) (ho : Own W W.heap.size mv' ms') : St w W gs av sv (.slice none 0 0) xs ys [] := by
  obtain ⟨B, hg, G, A, S, Mn, d1, d2, d3, d4, d5⟩ := f
  exact ⟨B, hg, G, A, S, own_nil _ _, d1, d2, (fun h => by cases h), d4, fun k h => by cases h⟩
theorem St.drop (f : St w W gs av sv mv xs ys ms) : St w W gs av sv (.slice none 0 0) xs ys [] := by
  obtain ⟨B, hg, G, A, S, Mn, d1, d2, d3, d4, d5⟩ := f
  exact ⟨B, hg, G, A, S, own_nil _ _, d1, d2, (fun h => by cases h), d4, fun k h => by cases h⟩
theorem St.twin (f : St w W gs av sv mv xs ys ms) (hb : Below W.heap.size W W') (ho : Own W' W.heap.size mv' ms') : St w W' gs av sv mv' xs ys ms' := by
  have gl := f.gl
  have hla := own_lt f.A
  have hls := own_lt f.S
  have hlm := own_lt ho
  obtain ⟨B, hg, G, A, S, Mn, d1, d2, d3, d4, d5⟩ := f.later hb
  refine ⟨B, hg, G, A, S, own_low ho f.B.size, d1, d2, fun h => ?_, d4, fun k h => ⟨fun h' => ?_, fun h' => ?_⟩⟩
  · have := hlm _ h; omega
  · have h1 := hlm _ h; have h2 := hla _ h'; omega
  · have h1 := hlm _ h; have h2 := hls _ h'; omega
theorem St.write (f : St w W gs av sv mv xs ys ms) (hw : W.grownBy W' sv.ownBlock) (ho : Own W' w.heap.size sv' ys') (he : sv'.ownBlock = sv.ownBlock ∨ sv'.ownBlock = some W.heap.size) : St w (W'.setCell ⟨gs, 1, none⟩ sv') gs av sv' mv xs ys' ms := by
  have gl := f.gl
  have hla := own_lt f.A
  have hls := own_lt f.S
  have hlm := own_lt f.Mn
  obtain ⟨B, hg, G, A, S, Mn, d1, d2, d3, d4, d5⟩ := f
  have hne : sv'.ownBlock ≠ some gs := fun h => by
    rcases he with he | he
    · exact d1 (he ▸ h)
    · rw [he] at h; cases h; omega
  have G1 : W'.heap[gs]? = some (.cells #[.int .i64 1, sv] 38 (0, 0)) := (hw.block gs gl (fun e => d1 e.symm)).trans G
  have keep : ∀ {v : Value} {zs : List Byte}, Own W w.heap.size v zs → v.ownBlock ≠ some gs → (∀ k, v.ownBlock = some k → sv.ownBlock ≠ some k) → Own (W'.setCell ⟨gs, 1, none⟩ sv') w.heap.size v zs := fun {v zs} h h1 h2 =>
    own_keep (own_keep h fun k hk => hw.block k (own_lt h k hk).2 (fun e => h2 k hk e.symm)) fun k hk => heap_set _ _ _ _ _ (fun e => h1 (e ▸ hk))
  refine ⟨(B.grown hw B.size (fun k hk => (hls k hk).1)).trans ((Only.set _ _ _ _).below hg), hg, ?_, keep A d2 d4, own_keep ho fun k hk => heap_set _ _ _ _ _ (fun e => hne (e ▸ hk)), keep Mn d3 (fun k hk => (d5 k hk).2), hne, d2, d3, fun k hk h => ?_, fun k hk => ⟨(d5 k hk).1, fun h => ?_⟩⟩
  · have := Arr.set (vs := [.int .i64 1, sv]) G1 1 sv'
    exact this
  · rcases he with he | he
    · exact d4 k hk (he ▸ h)
    · rw [he] at h; cases h; have := hla _ hk; omega
  · rcases he with he | he
    · exact (d5 k hk).2 (he ▸ h)
    · rw [he] at h; cases h; have := hlm _ hk; omega
theorem St.app (f : St w W gs av sv mv xs ys ms) (hw : W.grownBy W' av.ownBlock) (ho : Own W' w.heap.size av' xs') (he : av'.ownBlock = av.ownBlock ∨ av'.ownBlock = some W.heap.size) : St w W' gs av' sv mv xs' ys ms := by
  have gl := f.gl
  have hla := own_lt f.A
  have hls := own_lt f.S
  have hlm := own_lt f.Mn
  obtain ⟨B, hg, G, A, S, Mn, d1, d2, d3, d4, d5⟩ := f
  have keep : ∀ {v : Value} {zs : List Byte}, Own W w.heap.size v zs → (∀ k, v.ownBlock = some k → av.ownBlock ≠ some k) → Own W' w.heap.size v zs := fun {v zs} h h2 => own_keep h fun k hk => hw.block k (own_lt h k hk).2 (fun e => h2 k hk e.symm)
  refine ⟨B.grown hw B.size (fun k hk => (hla k hk).1), hg, (hw.block gs gl (fun e => d2 e.symm)).trans G, ho, keep S (fun k hk h => d4 k h hk), keep Mn (fun k hk => (d5 k hk).1), d1, fun h => ?_, d3, fun k hk h => ?_, fun k hk => ⟨fun h => ?_, (d5 k hk).2⟩⟩
  · rcases he with he | he
    · exact d2 (he ▸ h)
    · rw [he] at h; cases h; omega
  · rcases he with he | he
    · exact d4 k (he ▸ hk) h
    · rw [he] at hk; cases hk; have := hls _ h; omega
  · rcases he with he | he
    · exact (d5 k hk).1 (he ▸ h)
    · rw [he] at h; cases h; have := hlm _ hk; omega
theorem St.xor {g3 nb c : Nat} (f : St w W gs av sv (.slice (some ⟨g3, 0, none⟩) nb c) xs ys ms) (hl : ms.length = nb) (j : Nat) (x : Byte) : St w (W.setCell ⟨g3, j, none⟩ (.int .u8 (n8 x))) gs av sv (.slice (some ⟨g3, 0, none⟩) nb c) xs ys (ms.set j x) := by
  subst hl
  have hlm := own_lt f.Mn g3 rfl
  obtain ⟨B, hg, G, A, S, Mn, d1, d2, d3, d4, d5⟩ := f
  have hs := (Mn.stored j (.int .u8 (n8 x))).1
  rw [nums_set] at hs
  have hd5 := d5 g3 rfl
  refine ⟨B.trans ((Only.set _ _ _ _).below hlm.1), hg, (heap_set _ _ _ _ _ (fun e => d3 (congrArg some e))).trans G, own_keep A fun k hk => heap_set _ _ _ _ _ (fun e => hd5.1 (e ▸ hk)), own_keep S fun k hk => heap_set _ _ _ _ _ (fun e => hd5.2 (e ▸ hk)), ?_, d1, d2, d3, d4, d5⟩
  show World.ownsRow _ _ 5 1 _ (ms.set j x).length _
  rw [List.length_set]
  exact hs
theorem St.cM {g3 nb c : Nat} (f : St w W gs av sv (.slice (some ⟨g3, 0, none⟩) nb c) xs ys ms) (hl : ms.length = nb) (j : Nat) (hj : j < nb) : W.cell? ⟨g3, j, none⟩ = some (.int .u8 (n8 (gt ms 0#8 j))) ∧ W.frozen? ⟨g3, j, none⟩ = false := by
  subst hl
  obtain ⟨g, c', rest, e, _, _, _, _, ha⟩ := own_arr f.Mn (by omega)
  cases e
  exact ⟨ha.cell (rget hj), ha.frozen j⟩
theorem St.shape (f : St w W gs av sv mv xs ys ms) (h : 0 < ms.length) : ∃ g3 c, mv = .slice (some ⟨g3, 0, none⟩) ms.length c := by
  obtain ⟨g, c', rest, e, _⟩ := own_arr f.Mn h
  exact ⟨g, c', e⟩
end
theorem run_neq25 (ρ : Operand → Value) (w : World) (o : Oper) (x y : Operand) (l : List Byte) (hl : l.length = 32) (ho : o.op = .binOp .neq 25 x y 25) (h1 : ρ x = .agg (nums l).toArray) (h2 : ρ y = .agg (nums l).toArray) : (execOp ρ o).run Try.prog w = .ok (.value (.bool false)) w := by
  have hm : Try.prog.eqGuardType Try.prog.depth 25 = false := by kernel_rfl
  unfold execOp; rw [ho]; simp [go_sem, h1, h2, hm, Eq.in25 w l l hl hl]
def sl (j : Nat) : Nat := 51 + j
def kdL (gs : Nat) (av : Value) (kf zs : List Byte) : List Kd := [.eq (.agg (nums kf).toArray), .eq av, .bs zs, .eq (.agg (nums kf).toArray), .eq (.bool false), .eq (.bool false), .eq (.agg (nums kf).toArray), .eq (.pointer (some ⟨gs, 0, none⟩)), .eq (.agg (nums kf).toArray), .eq (.bool false), .eq (.bool false)]
set_option maxRecDepth 100000 in
set_option maxHeartbeats 1000000 in
theorem new21 (w : World) : Calls Try.prog 21 #[] w fun e w' => e = .returned (.pointer (some ⟨w.heap.size, 0, none⟩)) ∧ w' = w.alloc (.cells #[.int .i64 1, .slice none 0 0] 38) := by
  go_enter Try.func21, Try.ntmps21
  go_wp2
  go_ret
  exact ⟨rfl, rfl⟩
/-- The first so many pieces, one behind the other. -/
def pre (bss : List (List Byte)) (i : Nat) : List Byte := (bss.take i).flatten
theorem pre_succ (bss : List (List Byte)) (i : Nat) (b : List Byte) (h : bss[i]? = some b) : pre bss (i + 1) = pre bss i ++ b := by
  unfold pre
  rw [List.take_add_one, h, List.flatten_append]
  simp
set_option maxRecDepth 100000 in
set_option maxHeartbeats 4000000 in
theorem pieces6 (w : World) (v : Value) (bss : List (List Byte)) (hb : Bss w v bss) (hl : ∀ b ∈ bss, b.length ≤ 140737488355328) (hn : bss.length ≤ 140737488355328) : Calls Try.prog 6 #[v] w fun e w' => e = .returned (.bool true) ∧ Below w.heap.size w w' := by
  obtain ⟨A, c, pvs, rfl, hc1, hc2, hpl, hR, hP⟩ := hb
  have HR := Lib.hid hR
  have HP := Lib.hid hP
  have HL := Lib.hid hl
  have HPL := Lib.hid hpl
  have HC := Lib.hid hc1
  have HC2 := Lib.hid hc2
  generalize hN : bss.length = N at *
  have HN := Lib.hid hN
  clear hR hP hl hpl hc1 hc2 hN
  go_enter Try.func6, Try.ntmps6
  go_wp2_with (first
    | (go_at_call 9; refine (awake9 _).mono ?_
       rintro e w1 ⟨rfl, hb1⟩
       have HB1 := Lib.hid hb1
       clear hb1)
    | (go_at_call 21; refine (new21 _).mono ?_
       rintro e w2 ⟨rfl, rfl⟩))
  have HS0 : Hid (St w (w1.alloc (.cells #[.int .i64 1, .slice none 0 0] 38)) w1.heap.size (.slice none 0 0) (.slice none 0 0) (.slice none 0 0) [] [] []) := by
    have hz := HB1.out.size
    exact ⟨HB1.out.alloc hz _, hz, block_new _ _, own_nil _ _, own_nil _ _, own_nil _ _, (fun h => by cases h), (fun h => by cases h), (fun h => by cases h), (fun k h => by cases h), fun k h => by cases h⟩
  generalize (w1.alloc (.cells #[.int .i64 1, .slice none 0 0] 38)) = wx at *
  generalize w1.heap.size = gs at *
  clear HB1 w1
  go_loopw [4, 17] (fun av iv wr => ∃ i : Nat, i ≤ N ∧ iv = .int .i64 (i : Int) ∧ (pre bss i).length ≤ 20000 ∧ ∃ sv, St w wr gs av sv (.slice none 0 0) (pre bss i) (pre bss i) []) (fun _ iv _ => N - (intOf iv).toNat)
  case atStart => exact ⟨0, by omega, rfl, by simp [pre], _, HS0.out⟩
  obtain ⟨i, hi, rfl, hlp, sv, hf⟩ := hrel
  clear HS0
  have HF := Lib.hid hf
  have HLP := Lib.hid hlp
  clear hf hlp
  rcases Nat.lt_or_ge i N with hlt | hge
  · skip
    obtain ⟨b, hbi⟩ : ∃ b, bss[i]? = some b := ⟨_, List.getElem?_eq_getElem (by rw [HN.out]; exact hlt)⟩
    have hps := pre_succ bss i b hbi
    obtain ⟨g, off, rfl, _, hgl, hcell⟩ := Rd.at_ HR.out hlt
    obtain ⟨pv, hpv⟩ : ∃ pv, pvs[i]? = some pv := ⟨_, List.getElem?_eq_getElem (by rw [HPL.out]; exact hlt)⟩
    have hcell2 : wr.cell? ⟨g, off + i, none⟩ = some pv := by
      have e : pvs[i]'(by rw [HPL.out]; exact hlt) = pv := by rw [List.getElem?_eq_getElem (by rw [HPL.out]; exact hlt)] at hpv; exact Option.some.inj hpv
      rw [← e, ← hcell]
      have := HF.out.B.block g hgl
      simp [World.cell?, this]
    have hbs := HP.out i b pv hbi hpv
    have hbl := HL.out b (List.mem_of_getElem? hbi)
    have HPS := Lib.hid hps
    have HBL := Lib.hid hbl
    have HBS : Hid (∀ W, Below w.heap.size w W → Bs W 0 w.heap.size pv b) := fun W hW => hbs.keep (Same.of_below hW (Nat.le_refl _))
    have HLT := Lib.hid hlt
    obtain ⟨Ap, cp, rfl, _⟩ := hbs
    clear hps hbl hcell hpv hbi hgl
    obtain ⟨Aa, ca, rfl, _, _, _⟩ := HF.out.A.bs
    generalize hxs : pre bss i = xs at *
    generalize hnb : b.length = nb at *
    generalize hnx : xs.length = nx at *
    have HNB := Lib.hid hnb
    have HNX := Lib.hid hnx
    have HXS := Lib.hid hxs
    clear hnb hnx hxs
    have hbig := HBL.out
    have hsm := HLP.out
    obtain ⟨s, hs⟩ : ∃ s, s = nx + nb := ⟨_, rfl⟩
    have esum : (nx : Int) + (nb : Int) = (s : Int) := by omega
    have hsb : s ≤ 200000000000000 := by omega
    have HSE := Lib.hid hs
    clear hs hbig hsm
    rcases Nat.lt_or_ge 20000 s with hgt | hle
    · have hgt' : decide ((20000 : Int) < (s : Int)) = true := decide_eq_true (by omega)
      go_wp2_with fail
      go_ret
      exact ⟨rfl, HF.out.B⟩
    · have hgt' : decide ((20000 : Int) < (s : Int)) = false := decide_eq_false (by omega)
      have HTW : Hid (∀ W, Below w.heap.size w W → Calls Try.prog 11 #[.slice Ap nb cp] W fun e w' => ∃ v', e = .returned v' ∧ Own w' W.heap.size v' b ∧ Below W.heap.size W w') := fun W hW => twin11w W 0 w.heap.size _ b (HBS.out W hW) (by rw [HNB.out]; exact HBL.out)
      have HSL : Hid (s ≤ 20000) := hle
      have hnp := fun W => neqptr W (some ⟨gs, 0, none⟩)
      go_wp2_with (first
        | (go_at_call 11; refine (HTW.out _ HF.out.B).mono ?_
           rintro e w1 ⟨mv, rfl, ho1, hb1⟩
           have HF1 := Lib.hid (HF.out.twin hb1 ho1)
           obtain ⟨Am, cm, hmv, _⟩ := ho1.bs
           have hmv' : mv = .slice Am nb cm := by rw [hmv, HNB.out]
           clear hmv ho1 hb1
           subst hmv')
        | (go_at_call 19; refine (writeS w1 gs w.heap.size w.heap.size w1.heap.size sv (.slice Am nb cm) xs b HF1.out.G HF1.out.S HF1.out.Mn.bs HF1.out.d1 HF1.out.B.size (by have := HNX.out; have := HNB.out; have := HSE.out; have := HSL.out; omega)).mono ?_
           rintro e w2 ⟨rfl, sv', w1', rfl, hgr, ho, he⟩
           have HF2 := Lib.hid (HF1.out.write hgr ho he)
           clear hgr ho he))
      generalize (w1'.setCell ⟨gs, 1, none⟩ sv') = w2 at *
      clear HF HF1 hnp HTW hgt' hle
      have hfl : ∃ ms : List Byte, ms.length = nb ∧ St w w2 gs (.slice Aa nx ca) sv' (.slice Am nb cm) xs (xs ++ b) ms := ⟨b, HNB.out, HF2.out⟩
      have HFL := Lib.hid hfl
      clear HF2 hfl
      go_loopw [36] (fun jv wr => ∃ j : Nat, j ≤ nb ∧ jv = .int .i64 (j : Int) ∧ ∃ ms : List Byte, ms.length = nb ∧ St w wr gs (.slice Aa nx ca) sv' (.slice Am nb cm) xs (xs ++ b) ms) (fun jv _ => nb - (intOf jv).toNat)
      case atStart => exact ⟨0, by omega, rfl, HFL.out⟩
      obtain ⟨j, hj, rfl, ms, hms, hf⟩ := hrel
      clear HFL
      rcases Nat.lt_or_ge j nb with hlt | hge
      · skip
        obtain ⟨g3, c3, e3⟩ := hf.shape (by rw [hms]; omega)
        rw [hms] at e3
        cases e3
        obtain ⟨cj, fj⟩ := hf.cM hms j hlt
        have e85 : bits .xor .u8 (n8 (gt ms 0#8 j)) 85 = n8 (gt ms 0#8 j ^^^ 85#8) := xor8 _ 85#8
        have HF := Lib.hid hf
        have HMS := Lib.hid hms
        have HJ := Lib.hid hlt
        clear hf hms
        generalize gt ms 0#8 j = x at *
        go_wp2_with fail
        have hlt := HJ.out
        go_roundw
        case rel => exact ⟨j + 1, by omega, by go_num, _, by rw [List.length_set]; exact HMS.out, HF.out.xor HMS.out j (x ^^^ 85#8)⟩
        case measure => simp [intOf]; omega
      obtain rfl : j = nb := by omega
      have HF3 := Lib.hid hf.drop
      have HJ := Lib.hid hj
      clear hf hge hj hms ms
      have hbs2 : Rd wr 0 w.heap.size 1 Ap j (nums b) := by
        obtain ⟨A', c', e, _, _, h⟩ := HBS.out wr HF3.out.B
        rw [HNB.out] at e h
        cases e
        exact h
      have HRD := Lib.hid hbs2
      have hown : wr.ownsRow w.heap.size 5 1 (.slice Aa nx ca) nx (nums xs) := by
        have := HF3.out.A
        unfold Own at this
        rw [HNX.out] at this
        exact this
      have HOW := Lib.hid hown
      have hm3 : nx + j ≤ maxLen := by have := HSL.out; have := HSE.out; unfold maxLen; omega
      have hm4 : (nx + j) * 1 ≤ 140737488355328 := by have := HSL.out; have := HSE.out; omega
      have HM3 := Lib.hid hm3
      have HM4 := Lib.hid hm4
      clear hbs2 hown hm3 hm4
      obtain ⟨zs, hzs⟩ : ∃ zs, zs = xs ++ b := ⟨_, rfl⟩
      have HZS := Lib.hid hzs
      rw [← hzs] at HF3
      have HZL := Lib.hid (show zs.length = s by rw [hzs, List.length_append, HNX.out, HNB.out]; exact HSE.out.symm)
      have lk := kecc_len zs
      have HSU : Hid (∀ W sv av ms, St w W gs av sv (.slice none 0 0) ms zs [] → Calls Try.prog 20 #[.pointer (some ⟨gs, 0, none⟩)] W fun e w' => e = .returned (.agg (nums (keccF zs)).toArray) ∧ Below W.heap.size W w') := fun W sv av ms f => sumS W gs w.heap.size W.heap.size sv zs f.G f.S.bs (Nat.le_refl _) (by have := HZL.out; have := HSL.out; omega)
      have HKE : Hid (∀ W u, Bs W 0 W.heap.size u zs → Calls Try.prog 10 #[u] W fun e w' => e = .returned (.agg (nums (keccF zs)).toArray) ∧ Below W.heap.size W w') := fun W u h => kecc10 W 0 W.heap.size u zs h (by have := HZL.out; have := HSL.out; omega) (Nat.le_refl _)
      generalize keccF zs = kf at *
      have HI1 : Hid ((Try.prog.info? 25).map (·.size) = some (nums kf).toArray.size) := by rw [show (nums kf).toArray.size = 32 by simp [lk]]; exact info25
      have HZ1 : Hid ((nums (List.replicate 32 0#8)).toArray.size = (nums kf).toArray.size) := show _ = _ by simp [lk]
      have HO : Hid ((nums kf).toArray.all (·.oneCell') = true) := show _ = _ by simp [nums, Value.oneCell']
      have HLK := Lib.hid lk
      clear lk hzs
      go_wp2_with (first
        | (at_builtin; refine wp_append rfl (.tmp 46) (.tmp 47) 22 5 (.int .u8 0) 1 1 rfl Try.underlying22 info5 rfl (by omega) w.heap.size 0 w.heap.size (.slice Aa nx ca) nx (nums xs) Ap j cp (nums b) rfl rfl HOW.out HRD.out (nums_one _) HM3.out HM4.out HF3.out.B.size ?_
           intro v5 w5 ho5 hg5 hb5
           have ho5' : Own w5 w.heap.size v5 zs := by
             unfold Own
             rw [HZS.out, List.length_append, nums_append, HNX.out, HNB.out]
             exact ho5
           have HF5 := Lib.hid (HF3.out.app hg5 ho5' hb5)
           clear ho5 ho5' hg5 hb5)
        | (go_at_call 20; refine (HSU.out _ _ _ _ HF5.out).mono ?_
           rintro e w6 ⟨rfl, hb6⟩
           have HF6 := Lib.hid (HF5.out.later hb6)
           clear hb6)
        | (refine wpList_store_row rfl 25 (.tmp 9) (.tmp 50) rfl w6.heap.size (nums kf).toArray rfl rfl 25 (nums (List.replicate 32 0#8)).toArray (block_new _ _) HI1.out HZ1.out HO.out ?_))
      have hlow : Below w6.heap.size w6 ((w6.alloc (.cells #[.int .u8 0, .int .u8 0, .int .u8 0, .int .u8 0, .int .u8 0, .int .u8 0, .int .u8 0, .int .u8 0, .int .u8 0, .int .u8 0, .int .u8 0, .int .u8 0, .int .u8 0, .int .u8 0, .int .u8 0, .int .u8 0, .int .u8 0, .int .u8 0, .int .u8 0, .int .u8 0, .int .u8 0, .int .u8 0, .int .u8 0, .int .u8 0, .int .u8 0, .int .u8 0, .int .u8 0, .int .u8 0, .int .u8 0, .int .u8 0, .int .u8 0, .int .u8 0] 25)).setRow w6.heap.size (nums kf).toArray) := below_setRow (below_new _ _) (Nat.le_refl _) _
      have HF7 : Hid (St w ((w6.alloc (.cells #[.int .u8 0, .int .u8 0, .int .u8 0, .int .u8 0, .int .u8 0, .int .u8 0, .int .u8 0, .int .u8 0, .int .u8 0, .int .u8 0, .int .u8 0, .int .u8 0, .int .u8 0, .int .u8 0, .int .u8 0, .int .u8 0, .int .u8 0, .int .u8 0, .int .u8 0, .int .u8 0, .int .u8 0, .int .u8 0, .int .u8 0, .int .u8 0, .int .u8 0, .int .u8 0, .int .u8 0, .int .u8 0, .int .u8 0, .int .u8 0, .int .u8 0, .int .u8 0] 25)).setRow w6.heap.size (nums kf).toArray) gs v5 sv' (.slice none 0 0) zs zs []) := HF6.out.later hlow
      have HA7 : Hid (Arr ((w6.alloc (.cells #[.int .u8 0, .int .u8 0, .int .u8 0, .int .u8 0, .int .u8 0, .int .u8 0, .int .u8 0, .int .u8 0, .int .u8 0, .int .u8 0, .int .u8 0, .int .u8 0, .int .u8 0, .int .u8 0, .int .u8 0, .int .u8 0, .int .u8 0, .int .u8 0, .int .u8 0, .int .u8 0, .int .u8 0, .int .u8 0, .int .u8 0, .int .u8 0, .int .u8 0, .int .u8 0, .int .u8 0, .int .u8 0, .int .u8 0, .int .u8 0, .int .u8 0, .int .u8 0] 25)).setRow w6.heap.size (nums kf).toArray) w6.heap.size 25 (nums kf)) := setRow_heap _ _ _ _ _ _ (block_new w6 (.cells (nums (List.replicate 32 0#8)).toArray 25))
      clear hlow HF3 HF5 HF6 HOW HRD
      generalize ((w6.alloc (.cells #[.int .u8 0, .int .u8 0, .int .u8 0, .int .u8 0, .int .u8 0, .int .u8 0, .int .u8 0, .int .u8 0, .int .u8 0, .int .u8 0, .int .u8 0, .int .u8 0, .int .u8 0, .int .u8 0, .int .u8 0, .int .u8 0, .int .u8 0, .int .u8 0, .int .u8 0, .int .u8 0, .int .u8 0, .int .u8 0, .int .u8 0, .int .u8 0, .int .u8 0, .int .u8 0, .int .u8 0, .int .u8 0, .int .u8 0, .int .u8 0, .int .u8 0, .int .u8 0] 25)).setRow w6.heap.size (nums kf).toArray) = w7 at *
      generalize w6.heap.size = gk at *
      clear w6 w5
      have HI25 : Hid ((Try.prog.info? 25).map (·.size) = some (nums kf).length) := by rw [nums_length, HLK.out]; exact info25
      have HGK : Hid (∀ W, Below w7.heap.size w7 W → Arr W gk 25 (nums kf)) := fun W hW => HA7.out.later hW HA7.out.lt
      have HGF : Hid (∀ W, Below w7.heap.size w7 W → St w W gs v5 sv' (.slice none 0 0) zs zs []) := fun W hW => HF7.out.later hW
      have L11 : Hid (∀ W, Below w7.heap.size w7 W → Calls Try.prog 11 #[v5] W fun e w' => ∃ u, e = .returned u ∧ VK (.bs zs) u w' ∧ Below W.heap.size W w') := fun W hW => by
        refine (twin11 W w.heap.size W.heap.size v5 zs (HGF.out W hW).A.bs (by have := HZL.out; have := HSL.out; omega)).mono ?_
        rintro e w' ⟨u, rfl, ho, hb⟩
        refine ⟨u, rfl, ?_, hb⟩
        exact (Own.bs ho).wide (Nat.zero_le _) (Nat.le_refl _)
      have L10 : Hid (∀ u W, VK (.bs zs) u W → Calls Try.prog 10 #[u] W fun e w' => ∃ x, e = .returned x ∧ VK (.eq (.agg (nums kf).toArray)) x w' ∧ Below W.heap.size W w') := fun u W h => by
        refine (HKE.out W u h).mono ?_
        rintro e w' ⟨rfl, hb⟩
        exact ⟨_, rfl, rfl, hb⟩
      have L20 : Hid (∀ W, Below w7.heap.size w7 W → Calls Try.prog 20 #[.pointer (some ⟨gs, 0, none⟩)] W fun e w' => ∃ x, e = .returned x ∧ VK (.eq (.agg (nums kf).toArray)) x w' ∧ Below W.heap.size W w') := fun W hW => by
        refine (HSU.out W _ _ _ (HGF.out W hW)).mono ?_
        rintro e w' ⟨rfl, hb⟩
        exact ⟨_, rfl, rfl, hb⟩
      clear HI1 HZ1 HO HA7
      simp only [Act.put]
      refine wp_region_each sl (fun j => VK ((kdL gs v5 kf zs).getD j (.eq undef))) (fun W => Below w7.heap.size w7 W) (by kernel_rfl) ?slots (Below.refl _ _).drew (fun j v w w' h hb => VK.keep hb h) ?steps ?fin
      case slots => exact (show slotsB _ sl 63 = true from by decide +kernel)
      case steps =>
        refine Steps.cons ?_ ?_
        · -- operation 0
          intro a w' hi hd ho hf
          have f9 : a.eval (.tmp 9) = _ := eval_of ((ho 9 (by decide)).trans (show _ = some (.pointer (some ⟨gk, 0, none⟩)) from rfl))
          refine ⟨wanted_none rfl, ?_⟩
          exact fin_val (Pz.run_load_arr 25 _ rfl _ f9 25 _ (HGK.out w' hi) Try.underlying25 HI25.out) rfl hi (Below.refl _ _)
        refine Steps.cons ?_ ?_
        · -- operation 1
          intro a w' hi hd ho hf
          have f4 : a.eval (.tmp 4) = _ := eval_of ((ho 4 (by decide)).trans (show _ = some v5 from rfl))
          refine ⟨wanted_none rfl, ?_⟩
          refine fin_val (run_move a.eval w' _ _ rfl) ?_ hi (Below.refl _ _)
          exact f4
        refine Steps.cons ?_ ?_
        · -- operation 2
          intro a w' hi hd ho hf
          obtain ⟨v1, e1, h1⟩ := hf 1 (by rfl)
          change v1 = _ at h1; subst h1
          have f52 : a.eval (.tmp 52) = _ := eval_of e1
          refine ⟨wanted_none rfl, ?_⟩
          exact fin_call (run_call a.eval w' _ 11 #[.tmp 52] _ _ rfl rfl (by simp only [List.map_toArray, List.map_cons, List.map_nil, f52]) (enters_of Try.func11 (by kernel_rfl) rfl)) (L11.out w' hi) (fun W hW => hi.trans (hW.mono hi.size))
        refine Steps.cons ?_ ?_
        · -- operation 3
          intro a w' hi hd ho hf
          obtain ⟨v2, e2, h2⟩ := hf 2 (by rfl)
          have f53 : a.eval (.tmp 53) = _ := eval_of e2
          refine ⟨wanted_none rfl, ?_⟩
          exact fin_call (run_call a.eval w' _ 10 #[.tmp 53] _ _ rfl rfl (by simp only [List.map_toArray, List.map_cons, List.map_nil, f53]) (enters_of Try.func10 (by kernel_rfl) rfl)) (L10.out v2 w' h2) (fun W hW => hi.trans (hW.mono hi.size))
        refine Steps.cons ?_ ?_
        · -- operation 4
          intro a w' hi hd ho hf
          obtain ⟨v0, e0, h0⟩ := hf 0 (by rfl)
          change v0 = _ at h0; subst h0
          have f51 : a.eval (.tmp 51) = _ := eval_of e0
          obtain ⟨v3, e3, h3⟩ := hf 3 (by rfl)
          change v3 = _ at h3; subst h3
          have f54 : a.eval (.tmp 54) = _ := eval_of e3
          refine ⟨wanted_none rfl, ?_⟩
          exact fin_val (run_neq25 a.eval w' _ _ _ kf HLK.out rfl f51 f54) rfl hi (Below.refl _ _)
        refine Steps.cons ?_ ?_
        · -- operation 5
          intro a w' hi hd ho hf
          obtain ⟨v4, e4, h4⟩ := hf 4 (by rfl)
          change v4 = _ at h4; subst h4
          have f55 : a.eval (.tmp 55) = _ := eval_of e4
          refine ⟨wanted_none rfl, ?_⟩
          refine fin_val (run_move a.eval w' _ _ rfl) ?_ hi (Below.refl _ _)
          exact f55
        refine Steps.cons ?_ ?_
        · -- operation 6
          intro a w' hi hd ho hf
          have f9 : a.eval (.tmp 9) = _ := eval_of ((ho 9 (by decide)).trans (show _ = some (.pointer (some ⟨gk, 0, none⟩)) from rfl))
          obtain ⟨vg, eg, hg⟩ := hf 5 (by rfl)
          change vg = _ at hg; subst hg
          refine ⟨wanted_of (b := false) (by rfl) (by rfl) (by rfl) eg, ?_⟩
          exact fin_val (Pz.run_load_arr 25 _ rfl _ f9 25 _ (HGK.out w' hi) Try.underlying25 HI25.out) rfl hi (Below.refl _ _)
        refine Steps.cons ?_ ?_
        · -- operation 7
          intro a w' hi hd ho hf
          have f3 : a.eval (.tmp 3) = _ := eval_of ((ho 3 (by decide)).trans (show _ = some (.pointer (some ⟨gs, 0, none⟩)) from rfl))
          obtain ⟨vg, eg, hg⟩ := hf 5 (by rfl)
          change vg = _ at hg; subst hg
          refine ⟨wanted_of (b := false) (by rfl) (by rfl) (by rfl) eg, ?_⟩
          refine fin_val (run_move a.eval w' _ _ rfl) ?_ hi (Below.refl _ _)
          exact f3
        refine Steps.cons ?_ ?_
        · -- operation 8
          intro a w' hi hd ho hf
          obtain ⟨v7, e7, h7⟩ := hf 7 (by rfl)
          change v7 = _ at h7; subst h7
          have f58 : a.eval (.tmp 58) = _ := eval_of e7
          obtain ⟨vg, eg, hg⟩ := hf 5 (by rfl)
          change vg = _ at hg; subst hg
          refine ⟨wanted_of (b := false) (by rfl) (by rfl) (by rfl) eg, ?_⟩
          exact fin_call (run_call a.eval w' _ 20 #[.tmp 58] _ _ rfl rfl (by simp only [List.map_toArray, List.map_cons, List.map_nil, f58]) (enters_of Try.func20 (by kernel_rfl) rfl)) (L20.out w' hi) (fun W hW => hi.trans (hW.mono hi.size))
        refine Steps.cons ?_ ?_
        · -- operation 9
          intro a w' hi hd ho hf
          obtain ⟨v6, e6, h6⟩ := hf 6 (by rfl)
          change v6 = _ at h6; subst h6
          have f57 : a.eval (.tmp 57) = _ := eval_of e6
          obtain ⟨v8, e8, h8⟩ := hf 8 (by rfl)
          change v8 = _ at h8; subst h8
          have f59 : a.eval (.tmp 59) = _ := eval_of e8
          obtain ⟨vg, eg, hg⟩ := hf 5 (by rfl)
          change vg = _ at hg; subst hg
          refine ⟨wanted_of (b := false) (by rfl) (by rfl) (by rfl) eg, ?_⟩
          exact fin_val (run_neq25 a.eval w' _ _ _ kf HLK.out rfl f57 f59) rfl hi (Below.refl _ _)
        refine Steps.cons ?_ ?_
        · -- operation 10
          intro a w' hi hd ho hf
          obtain ⟨v5, e5, h5⟩ := hf 5 (by rfl)
          change v5 = _ at h5; subst h5
          have f56 : a.eval (.tmp 56) = _ := eval_of e5
          obtain ⟨v9, e9, h9⟩ := hf 9 (by rfl)
          change v9 = _ at h9; subst h9
          have f60 : a.eval (.tmp 60) = _ := eval_of e9
          refine ⟨wanted_none rfl, ?_⟩
          refine fin_val (Pz.run_pickf a.eval w' _ _ _ _ rfl f56) ?_ hi (Below.refl _ _)
          exact f60
        exact Steps.nil
      case fin =>
        intro a' W' hi hsz hdf ho hall
        obtain ⟨v10, e10, h10⟩ := hall 10 (by decide)
        change v10 = _ at h10
        subst h10
        have e := Pz.act_each sl 11 [51, 52, 53, 54, 55, 56, 57, 58, 59, 60, 61] hsz hdf ho (by decide)
        have h61 : Rv.look a' 61 = .bool false := by
          unfold Rv.look
          rw [Array.getD_eq_getD_getElem?, show a'.tmps[61]? = _ from e10]
          rfl
        have HI := Lib.hid hi
        rw [e]
        simp only [List.foldl_cons, List.foldl_nil, List.setIfInBounds_toArray, List.set_cons_zero, List.set_cons_succ, h61]
        generalize Rv.look a' 51 = q51 at *
        generalize Rv.look a' 52 = q52 at *
        generalize Rv.look a' 53 = q53 at *
        generalize Rv.look a' 54 = q54 at *
        generalize Rv.look a' 55 = q55 at *
        generalize Rv.look a' 56 = q56 at *
        generalize Rv.look a' 57 = q57 at *
        generalize Rv.look a' 58 = q58 at *
        generalize Rv.look a' 59 = q59 at *
        generalize Rv.look a' 60 = q60 at *
        clear e ho hall hsz hdf hi h61 e10
        have hlt := HLT.out
        go_wp2_with fail
        go_roundw
        case rel =>
          refine ⟨i + 1, by omega, by go_num, ?_, sv', ?_⟩
          · rw [HPS.out, ← HZS.out, HZL.out]
            exact HSL.out
          · rw [HPS.out, ← HZS.out]
            exact HGF.out W' HI.out
        case measure => simp [intOf]; omega
  obtain rfl : i = N := by omega
  go_wp2_with fail
  go_ret
  exact ⟨rfl, HF.out.B⟩
end Go.Proofs.Ytnlcndlfdnogaaa.Pc
