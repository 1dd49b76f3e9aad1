/- RLP, plain laws: decoding undoes encoding, and the other way round; a form that is cut off is refused. No program in sight. -/
import Derived.Test.YtkdpphcalekbdaaV
import Derived.Test.YtkdpphcalekbdaaC
set_option linter.unusedVariables false
set_option linter.unusedSimpArgs false
namespace Go.Proofs.Ytkdpphcalekbdaa.M
theorem ofNat_toNat {n : Nat} (h : n < 256) : (UInt8.ofNat n).toNat = n := by rw [toNat_ofNat_mod]; omega
/-- What stands behind a head's first byte. -/
def headT (n : Nat) : List UInt8 := if n ≤ 55 then [] else digits n
def headQ (n : Nat) : Nat := if n ≤ 55 then n else 55 + (digits n).length
theorem headF_parts (b n : Nat) : headF b n = UInt8.ofNat (b + headQ n) :: headT n := by
  unfold headF headQ headT
  split
  · rfl
  · rw [Nat.add_assoc]
theorem headQ_lt {n : Nat} (h : n ≤ 1099511627776) : headQ n < 64 := by
  unfold headQ
  split
  · omega
  · have : (digits n).length ≤ 6 := digits_length_le (by omega)
    omega
theorem digits_ne {n : Nat} (h : n ≠ 0) : 1 ≤ (digits n).length := by
  cases hd : digits n with
  | nil => exact absurd (digits_eq_nil hd) h
  | cons a l => simp
theorem headD_digits {n : Nat} (h : n ≠ 0) (r : List UInt8) : (digits n ++ r).headD 0 ≠ 0 := by
  cases hd : digits n with
  | nil => exact absurd (digits_eq_nil hd) h
  | cons a l => exact digits_head n a l hd
theorem hdBody_form (l n : Nat) (r : List UInt8) (hn : n ≤ r.length) (h40 : n ≤ 1099511627776) (hs : ¬(l = 0 ∧ n = 1 ∧ (r.headD 0).toNat < 128)) :
    hdBody (headT n ++ r) l (headQ n) = .ok (l, 1 + (headT n).length, 1 + (headT n).length + n) := by
  unfold hdBody headQ headT
  by_cases h : n ≤ 55
  · simp only [if_pos h, List.nil_append, List.length_nil, Nat.add_zero]
    rw [if_neg (by omega), if_neg hs]
  · simp only [if_neg h]
    rw [if_neg (by have := digits_ne (n := n) (by omega); omega)]
    have e : 55 + (digits n).length - 55 = (digits n).length := by omega
    rw [e]
    have hlong : longP (digits n ++ r) (digits n).length = (n, 0) := by
      unfold longP
      rw [if_neg (by simp), if_neg (headD_digits (by omega) r), List.take_left, ofDigits_digits, if_neg (by omega)]
    rw [hlong]
    simp only [List.length_append]
    rw [if_neg (by simp), if_neg (by omega)]
theorem hd_form (l b n : Nat) (hb : b = if l = 0 then 128 else 192) (hl : l ≤ 1) (r : List UInt8) (hn : n ≤ r.length) (h40 : n ≤ 1099511627776) (hs : ¬(l = 0 ∧ n = 1 ∧ (r.headD 0).toNat < 128)) :
    hd (headF b n ++ r) = .ok (l, (headF b n).length, (headF b n).length + n) := by
  have hq := headQ_lt h40
  have hbody := hdBody_form l n r hn h40 hs
  rw [headF_parts]
  simp only [List.cons_append, List.length_cons]
  rw [hd_cons]
  rw [Nat.add_comm 1] at hbody
  by_cases h0 : l = 0
  · subst h0
    have hb' : b = 128 := hb
    subst hb'
    rw [ofNat_toNat (by omega), if_neg (by omega), if_pos (by omega), show 128 + headQ n - 128 = headQ n from by omega]
    exact hbody
  · have h1 : l = 1 := by omega
    subst h1
    have hb' : b = 192 := hb
    subst hb'
    rw [ofNat_toNat (by omega), if_neg (by omega), if_neg (by omega), show 192 + headQ n - 192 = headQ n from by omega]
    exact hbody
theorem formF_pos (x : It) : 1 ≤ (formF x).length := by
  cases x with
  | mk l bs ks =>
    simp only [formF]
    split
    · split
      · rename_i h; omega
      · have := headF_pos 128 bs.length; rw [List.length_append]; omega
    · have := headF_pos 192 (formsF ks).length; rw [List.length_append]; omega
theorem checks_mem : ∀ {ks : List It} {d : Nat}, checksF d ks = 0 → ∀ k ∈ ks, checkF d k = 0
  | [], _, _, k, h => by cases h
  | x :: ks, d, h, k, hk => by
    rw [checksF] at h
    split at h
    · rename_i h1; exact absurd h h1
    · rename_i h1
      rcases List.mem_cons.1 hk with e | e
      · subst e; omega
      · exact checks_mem h k e
theorem check_list {l : Int} {bs : List UInt8} {ks : List It} {d : Nat} (h : checkF d (.mk l bs ks) = 0) : (l = 0 ∧ ks = []) ∨ (l = 1 ∧ bs = [] ∧ d < 64 ∧ checksF (d + 1) ks = 0) := by
  rw [checkF] at h
  split at h
  · cases h
  · split at h
    · cases h
    · rename_i h1 h2
      by_cases h0 : l = 0
      · refine .inl ⟨h0, List.eq_nil_of_length_eq_zero ?_⟩
        rcases Nat.eq_zero_or_pos ks.length with h | h
        · exact h
        · exact absurd (.inr (.inl ⟨h0, h⟩)) h2
      · by_cases h9 : l = 1
        · refine .inr ⟨h9, List.eq_nil_of_length_eq_zero ?_, ?_, h⟩
          · rcases Nat.eq_zero_or_pos bs.length with h | h
            · exact h
            · exact absurd (.inr (.inr ⟨h9, h⟩)) h2
          · rcases Nat.lt_or_ge d 64 with h | h
            · exact h
            · exact absurd ⟨h9, h⟩ h1
        · exact absurd (.inl ⟨h0, h9⟩) h2
theorem dkids_forms (rec : List UInt8 → Except Nat (It × Nat)) : ∀ (ks : List It) (f : Nat), (∀ k ∈ ks, ∀ rest, rec (formF k ++ rest) = .ok (k, (formF k).length)) → (formsF ks).length ≤ f → dkids rec f (formsF ks) = .ok ks
  | [], f, _, _ => by rw [formsF, dkids_done]
  | k :: ks, f, h, hf => by
    have hp := formF_pos k
    simp only [formsF, List.length_append] at hf ⊢
    obtain ⟨f, rfl⟩ : ∃ g, f = g + 1 := ⟨f - 1, by omega⟩
    rw [dkids_step _ _ _ (by rw [List.length_append]; omega), h k (by simp)]
    simp only [List.drop_left]
    rw [dkids_forms rec ks f (fun k' hk' => h k' (by simp [hk'])) (by omega)]
/-- Decoding undoes encoding, whatever stands behind. -/
theorem dec_form (x : It) : ∀ (d : Nat) (rest : List UInt8), d ≤ 64 → checkF (64 - d) x = 0 → (formF x).length ≤ 1099511627776 → decF d (formF x ++ rest) = .ok (x, (formF x).length) := by
  refine It.ind (P := fun x => ∀ (d : Nat) (rest : List UInt8), d ≤ 64 → checkF (64 - d) x = 0 → (formF x).length ≤ 1099511627776 → decF d (formF x ++ rest) = .ok (x, (formF x).length)) ?_ x
  intro l bs ks ih d rest hd64 hc h40
  rcases check_list hc with ⟨rfl, rfl⟩ | ⟨rfl, rfl, hlt, hks⟩
  · by_cases hs : bs.length = 1 ∧ (bs.headD 0).toNat < 128
    · have hf : formF (.mk 0 bs []) = bs := by simp only [formF, if_pos hs, if_pos]
      rw [hf]
      obtain ⟨h1, h2⟩ := hs
      match bs, h1, h2 with
      | [b], _, h2 =>
        have hh : hd ([b] ++ rest) = .ok (0, 0, 1) := by
          show hd (b :: rest) = _
          rw [hd_cons, if_pos (by simpa using h2)]
        rw [decF.eq_def]
        simp only [hh]
        simp
    · have hf : formF (.mk 0 bs []) = headF 128 bs.length ++ bs := by simp only [formF, if_neg hs, if_pos]
      rw [hf] at h40 ⊢
      rw [List.length_append] at h40
      have hh : hd (headF 128 bs.length ++ (bs ++ rest)) = .ok (0, (headF 128 bs.length).length, (headF 128 bs.length).length + bs.length) := by
        refine hd_form 0 128 bs.length rfl (by omega) (bs ++ rest) (by simp) (by omega) ?_
        rintro ⟨_, h1, h2⟩
        match bs, h1, h2, hs with
        | [b], _, h2, hs => exact hs ⟨rfl, by simpa using h2⟩
      rw [List.append_assoc, decF.eq_def]
      simp only [hh]
      rw [← List.append_assoc, ← List.length_append, List.take_left, List.drop_left]
      simp
  · have hf : formF (.mk 1 [] ks) = headF 192 (formsF ks).length ++ formsF ks := by simp [formF]
    rw [hf] at h40 ⊢
    rw [List.length_append] at h40
    have hh : hd (headF 192 (formsF ks).length ++ (formsF ks ++ rest)) = .ok (1, (headF 192 (formsF ks).length).length, (headF 192 (formsF ks).length).length + (formsF ks).length) := by
      refine hd_form 1 192 (formsF ks).length rfl (by omega) (formsF ks ++ rest) (by simp) (by omega) ?_
      rintro ⟨h, _⟩; exact absurd h (by decide)
    obtain ⟨d, rfl⟩ : ∃ g, d = g + 1 := ⟨d - 1, by omega⟩
    have hkids : dkids (decF d) (formsF ks).length (formsF ks) = .ok ks := by
      refine dkids_forms _ ks _ (fun k hk rest' => ?_) (Nat.le_refl _)
      refine ih k hk d rest' (by omega) ?_ ?_
      · have := checks_mem hks k hk
        rwa [show 64 - (d + 1) + 1 = 64 - d from by omega] at this
      · have h9 : ∀ {ks : List It} {k : It}, k ∈ ks → (formF k).length ≤ (formsF ks).length := by
          intro ks
          induction ks with
          | nil => intro k h; cases h
          | cons y ys ih2 =>
            intro k h
            simp only [formsF, List.length_append]
            rcases List.mem_cons.1 h with e | e
            · subst e; omega
            · have := ih2 e; omega
        have := h9 hk
        omega
    rw [List.append_assoc, decF.eq_def]
    simp only [hh]
    rw [← List.append_assoc, ← List.length_append, List.take_left, List.drop_left, hkids]
    simp
/-- What a head that is read says of the bytes. -/
theorem hd_inv {bs : List UInt8} {l f t : Nat} (h : hd bs = .ok (l, f, t)) : bs.take t =
    (if l = 0 ∧ ((bs.take t).drop f).length = 1 ∧ (((bs.take t).drop f).headD 0).toNat < 128 then (bs.take t).drop f else headF (if l = 0 then 128 else 192) ((bs.take t).drop f).length ++ (bs.take t).drop f) := by
  cases bs with
  | nil => simp [hd] at h
  | cons c r =>
    have key : ∀ l0 q b, c.toNat = b + q → q < 64 → (b = if l0 = 0 then 128 else 192) → hdBody r l0 q = .ok (l, f, t) → l = l0 ∧ ¬(l = 0 ∧ (((c :: r).take t).drop f).length = 1 ∧ ((((c :: r).take t).drop f).headD 0).toNat < 128) ∧ (c :: r).take t = headF b (((c :: r).take t).drop f).length ++ ((c :: r).take t).drop f := by
      intro l0 q b hc hq hb hbd
      have hce : UInt8.ofNat (b + q) = c := by rw [← hc]; exact UInt8.ofNat_toNat
      unfold hdBody at hbd
      split at hbd
      · rename_i hq55
        split at hbd
        · cases hbd
        · rename_i hlen
          split at hbd
          · cases hbd
          · rename_i hsm
            injection hbd with e; injection e with e1 e; injection e with e2 e3
            subst e1; subst e2; subst e3
            have ep : ((c :: r).take (1 + q)).drop 1 = r.take q := by rw [Nat.add_comm]; simp
            have el : (r.take q).length = q := by rw [List.length_take]; omega
            rw [ep, el]
            refine ⟨rfl, ?_, ?_⟩
            · rintro ⟨h0, h1, h2⟩
              subst h1
              cases r with
              | nil => simp at hlen
              | cons a r => exact hsm ⟨h0, rfl, by simpa using h2⟩
            · rw [headF, if_pos hq55, hce, Nat.add_comm]; simp
      · rename_i hq55
        split at hbd
        · cases hbd
        · rename_i hlo
          split at hbd
          · cases hbd
          · rename_i hlen
            injection hbd with e; injection e with e1 e; injection e with e2 e3
            subst e1; subst e2; subst e3
            have hlo' : (longP r (q - 55)).2 = 0 := by omega
            have hk1 : 1 ≤ q - 55 := by omega
            generalize hk : q - 55 = k at *
            unfold longP at hlo' hlen ⊢
            split at hlo'
            · cases hlo'
            · rename_i h1
              rw [if_neg h1] at hlen ⊢
              split at hlo'
              · cases hlo'
              · rename_i h2
                rw [if_neg h2] at hlen ⊢
                split at hlo'
                · cases hlo'
                · rename_i h3
                  rw [if_neg h3] at hlen ⊢
                  simp only at hlen ⊢
                  generalize hn : ofDigits (r.take k) = n at *
                  have ep : ((c :: r).take (1 + k + n)).drop (1 + k) = (r.drop k).take n := by
                    rw [show 1 + k + n = (k + n) + 1 from by omega, show 1 + k = k + 1 from by omega]
                    simp only [List.take_succ_cons, List.drop_succ_cons]
                    rw [List.drop_take, Nat.add_sub_cancel_left]
                  have el : ((r.drop k).take n).length = n := by rw [List.length_take, List.length_drop]; omega
                  have hdg : digits n = r.take k := by
                    rw [← hn]
                    refine digits_ofDigits _ fun b r' he => ?_
                    cases r with
                    | nil => simp at he
                    | cons a r'' =>
                      obtain ⟨k, rfl⟩ : ∃ g, k = g + 1 := ⟨k - 1, by omega⟩
                      simp only [List.take_succ_cons, List.cons.injEq] at he
                      rw [← he.1]
                      simpa using h2
                  have hkl : (r.take k).length = k := by rw [List.length_take]; omega
                  rw [ep, el]
                  refine ⟨by first | rfl | trivial, by rintro ⟨_, h, _⟩; omega, ?_⟩
                  rw [headF, if_neg (by omega), hdg, hkl, show b + 55 + k = b + q from by omega, hce, show 1 + k + n = (k + n) + 1 from by omega]
                  simp only [List.take_succ_cons, List.cons_append, List.cons.injEq, true_and]
                  rw [List.take_add]
    rw [hd_cons] at h
    split at h
    · rename_i hc
      injection h with h; injection h with e1 h; injection h with e2 e3
      subst e1; subst e2; subst e3
      simp [hc]
    · rename_i hc
      have hc256 := c.toNat_lt
      split at h
      · obtain ⟨rfl, h2, h3⟩ := key 0 (c.toNat - 128) 128 (by omega) (by omega) rfl h
        rw [if_neg h2, if_pos rfl]
        exact h3
      · obtain ⟨rfl, h2, h3⟩ := key 1 (c.toNat - 192) 192 (by omega) (by omega) rfl h
        rw [if_neg h2, if_neg (by decide)]
        exact h3
theorem dkids_inv {rec : List UInt8 → Except Nat (It × Nat)} {e : Nat} (hrec : ∀ p k n, rec p = .ok (k, n) → checkF e k = 0 ∧ p.take n = formF k ∧ n ≤ p.length) : ∀ (f : Nat) (p : List UInt8) (ks : List It), dkids rec f p = .ok ks → p.length ≤ f → checksF e ks = 0 ∧ formsF ks = p := by
  intro f
  induction f with
  | zero =>
    intro p ks h hf
    have hp : p = [] := List.eq_nil_of_length_eq_zero (by omega)
    subst hp
    simp [dkids] at h
    subst h
    exact ⟨rfl, rfl⟩
  | succ f ih =>
    intro p ks h hf
    by_cases hp : p.length = 0
    · have hp' : p = [] := List.eq_nil_of_length_eq_zero hp
      subst hp'
      rw [dkids_done] at h
      cases h
      exact ⟨rfl, rfl⟩
    · rw [dkids_step _ _ _ (by omega)] at h
      cases hr : rec p with
      | error e => rw [hr] at h; cases h
      | ok r =>
        obtain ⟨k, n⟩ := r
        rw [hr] at h
        simp only at h
        obtain ⟨a1, a2, a3⟩ := hrec p k n hr
        cases hk : dkids rec f (p.drop n) with
        | error e => rw [hk] at h; cases h
        | ok ks' =>
          rw [hk] at h
          injection h with h
          subst h
          have hn : 1 ≤ n := by
            have := formF_pos k
            rw [← a2, List.length_take] at this
            omega
          obtain ⟨b1, b2⟩ := ih (p.drop n) ks' hk (by rw [List.length_drop]; omega)
          refine ⟨?_, ?_⟩
          · rw [checksF, if_neg (by omega)]; exact b1
          · rw [formsF, ← a2, b2, List.take_append_drop]
/-- Encoding undoes decoding. -/
theorem dec_inv : ∀ (d : Nat) (bs : List UInt8) (x : It) (t : Nat), d ≤ 64 → decF d bs = .ok (x, t) → checkF (64 - d) x = 0 ∧ bs.take t = formF x ∧ t ≤ bs.length := by
  intro d
  induction d with
  | zero =>
    intro bs x t hd64 h
    rw [decF] at h
    cases hh : hd bs with
    | error e => rw [hh] at h; cases h
    | ok r =>
      obtain ⟨l, f, t0⟩ := r
      rw [hh] at h
      have hok := hd_ok hh
      have hi := hd_inv hh
      simp only at h
      by_cases hl : l = 0
      · rw [if_pos hl] at h
        injection h with h; injection h with e1 e2
        subst e1; subst e2; subst hl
        refine ⟨by simp [checkF, checksF], ?_, hok.2.2.1⟩
        simp only [true_and] at hi
        simp only [formF, if_pos]
        exact hi
      · rw [if_neg hl] at h; cases h
  | succ d ih =>
    intro bs x t hd64 h
    rw [decF] at h
    cases hh : hd bs with
    | error e => rw [hh] at h; cases h
    | ok r =>
      obtain ⟨l, f, t0⟩ := r
      rw [hh] at h
      have hok := hd_ok hh
      have hi := hd_inv hh
      simp only at h
      by_cases hl : l = 0
      · rw [if_pos hl] at h
        injection h with h; injection h with e1 e2
        subst e1; subst e2; subst hl
        refine ⟨by simp [checkF, checksF], ?_, hok.2.2.1⟩
        simp only [true_and] at hi
        simp only [formF, if_pos]
        exact hi
      · rw [if_neg hl] at h
        have hl1 : l = 1 := by omega
        cases hk : dkids (decF d) ((bs.take t0).drop f).length ((bs.take t0).drop f) with
        | error e => rw [hk] at h; cases h
        | ok ks =>
          rw [hk] at h
          injection h with h; injection h with e1 e2
          subst e1; subst e2; subst hl1
          obtain ⟨b1, b2⟩ := dkids_inv (e := 64 - d) (fun p k n hp => ih p k n (by omega) hp) _ _ _ hk (Nat.le_refl _)
          refine ⟨?_, ?_, hok.2.2.1⟩
          · rw [checkF, if_neg (by omega), if_neg (by simp), show 64 - (d + 1) + 1 = 64 - d from by omega]
            exact b1
          · rw [if_neg (by omega), if_neg (by decide)] at hi
            rw [hi]
            simp only [formF]
            rw [if_neg (by decide), b2]
/-- A head that is cut off. -/
theorem hd_cut {bs : List UInt8} {l f t c : Nat} (h : hd bs = .ok (l, f, t)) (hc : c < t) : hd (bs.take c) = .error 41 := by
  cases bs with
  | nil => simp [hd] at h
  | cons b r =>
    cases c with
    | zero => rfl
    | succ c =>
      rw [List.take_succ_cons, hd_cons]
      rw [hd_cons] at h
      have key : ∀ l0 q, hdBody r l0 q = .ok (l, f, t) → hdBody (r.take c) l0 q = .error 41 := by
        intro l0 q hb
        unfold hdBody at hb ⊢
        split at hb
        · rename_i hq
          split at hb
          · cases hb
          · rename_i hlen
            split at hb
            · cases hb
            · injection hb with e; injection e with e1 e; injection e with e2 e3
              rw [if_pos hq, if_pos (by rw [List.length_take]; omega)]
        · rename_i hq
          rw [if_neg hq]
          split at hb
          · cases hb
          · rename_i hlo
            split at hb
            · cases hb
            · rename_i hlen
              injection hb with e; injection e with e1 e; injection e with e2 e3
              generalize hk : q - 55 = k at *
              by_cases hck : c < k
              · have : longP (r.take c) k = (0, 41) := by unfold longP; rw [if_pos (by rw [List.length_take]; omega)]
                rw [this]; simp
              · have hrk : ¬ r.length < k := by
                  intro h9
                  apply hlo
                  unfold longP at *
                  rw [if_pos h9] at hlen e3
                  simp only at hlen e3
                  omega
                have e0 : longP (r.take c) k = longP r k := by
                  unfold longP
                  rw [if_neg (by rw [List.length_take]; omega), if_neg hrk, List.take_take, Nat.min_eq_left (by omega)]
                  have : (r.take c).headD 0 = r.headD 0 := by
                    cases r with
                    | nil => simp
                    | cons a r =>
                      obtain ⟨c, rfl⟩ : ∃ g, c = g + 1 := ⟨c - 1, by omega⟩
                      simp
                  rw [this]
                rw [e0, if_neg hlo, if_pos (by rw [List.length_take]; omega)]
      split at h
      · injection h with h; injection h with e1 h; injection h with e2 e3; omega
      · rename_i h1
        rw [if_neg h1]
        split at h
        · rename_i h2
          rw [if_pos h2]; exact key _ _ h
        · rename_i h2
          rw [if_neg h2]; exact key _ _ h
/-- The head of a form. -/
theorem hd_of_form {x : It} {d : Nat} (hc : checkF d x = 0) (h40 : (formF x).length ≤ 1099511627776) (rest : List UInt8) : ∃ l f, hd (formF x ++ rest) = .ok (l, f, (formF x).length) ∧ payF x = (formF x).drop f ∧ f ≤ (formF x).length ∧ (match x with | .mk l' _ _ => l' = (l : Int)) := by
  cases x with
  | mk l bs ks =>
    rcases check_list hc with ⟨rfl, rfl⟩ | ⟨rfl, rfl, hlt, hks⟩
    · by_cases hs : bs.length = 1 ∧ (bs.headD 0).toNat < 128
      · have hf : formF (.mk 0 bs []) = bs := by simp only [formF, if_pos hs, if_pos]
        rw [hf]
        obtain ⟨h1, h2⟩ := hs
        match bs, h1, h2 with
        | [b], _, h2 =>
          refine ⟨0, 0, ?_, by simp [payF], by simp, rfl⟩
          show hd (b :: rest) = _
          rw [hd_cons, if_pos (by simpa using h2)]; rfl
      · have hf : formF (.mk 0 bs []) = headF 128 bs.length ++ bs := by simp only [formF, if_neg hs, if_pos]
        rw [hf] at h40 ⊢
        rw [List.length_append] at h40
        refine ⟨0, (headF 128 bs.length).length, ?_, by simp [payF], by simp, rfl⟩
        rw [List.append_assoc, List.length_append]
        refine hd_form 0 128 bs.length rfl (by omega) (bs ++ rest) (by simp) (by omega) ?_
        rintro ⟨_, h1, h2⟩
        match bs, h1, h2, hs with
        | [b], _, h2, hs => exact hs ⟨rfl, by simpa using h2⟩
    · have hf : formF (.mk 1 [] ks) = headF 192 (formsF ks).length ++ formsF ks := by simp [formF]
      rw [hf] at h40 ⊢
      rw [List.length_append] at h40
      refine ⟨1, (headF 192 (formsF ks).length).length, ?_, by simp [payF], by simp, rfl⟩
      rw [List.append_assoc, List.length_append]
      refine hd_form 1 192 (formsF ks).length rfl (by omega) (formsF ks ++ rest) (by simp) (by omega) ?_
      rintro ⟨h, _⟩; exact absurd h (by decide)
end Go.Proofs.Ytkdpphcalekbdaa.M
