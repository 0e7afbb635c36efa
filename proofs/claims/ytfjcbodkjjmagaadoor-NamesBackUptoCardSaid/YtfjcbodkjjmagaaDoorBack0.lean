/-
  Spelling a text and reading it again, both ways: the plain part. No program in sight. By an AI agent.
-/
import Derived.Test.YtfjcbodkjjmagaaDoorGChars
namespace Go.Proofs.YtfjcbodkjjmagaaDoor
open Go.RowKit
set_option maxRecDepth 100000

theorem tailV_take : ∀ (n : Nat) (a : Int) (t x : List UInt8) (v : Int), tailV a t n = some v → tailV a (t.take n ++ x) n = some v
  | 0, a, t, x, v, h => by simp only [tailV] at h ⊢; exact h
  | n + 1, a, [], x, v, h => by cases h
  | n + 1, a, c :: t, x, v, h => by
    rw [tailV_s] at h
    rw [List.take_succ_cons, List.cons_append, tailV_s]
    split at h
    · next hc => rw [if_pos hc]; exact tailV_take n _ t x v h
    · cases h
/-- a scalar is read from its own bytes alone -/
theorem nextP_take {r : List UInt8} (x : List UInt8) {v : Int} {n : Nat} (h : nextP r = (v, n)) (hn : n ≠ 0) : nextP (r.take n ++ x) = (v, n) := by
  cases r with
  | nil => cases h; exact absurd rfl hn
  | cons c t =>
    by_cases hc : leadN c.toNat = 0 ∨ t.length + 1 < leadN c.toNat
    · rw [nextP_none hc] at h; cases h; exact absurd rfl hn
    · have e : nextP (c :: t) = finN (leadN c.toNat) (tailV (leadV c.toNat) t (leadN c.toNat - 1)) := by rw [nextP, if_neg hc]
      rw [e] at h
      have hb := finN_bound (n := leadN c.toNat) (o := tailV (leadV c.toNat) t (leadN c.toNat - 1)) (by rw [h]; exact hn)
      rw [h] at hb
      obtain ⟨m, hm⟩ : ∃ m, leadN c.toNat = m + 1 := ⟨leadN c.toNat - 1, by omega⟩
      have hn1 : n = m + 1 := by have := hb.1; simp only at this; omega
      subst hn1
      rw [hm, Nat.add_sub_cancel] at h
      cases ho : tailV (leadV c.toNat) t m with
      | none => rw [ho] at h; simp [finN] at h
      | some y =>
        rw [List.take_succ_cons, List.cons_append, nextP_out hm rfl (by omega) (by simp; omega), Nat.add_sub_cancel, tailV_take m _ t x y ho, ← ho]
        exact h

theorem stands_37 (f l : Bool) : standsB 37 f l = false := by cases f <;> cases l <;> decide
theorem stands_92 (f l : Bool) : standsB 92 f l = false := by cases f <;> cases l <;> decide
theorem percB_take {r : List UInt8} (h : percB r = true) (x : List UInt8) : percB (r.take 3 ++ x) = true := by
  have h3 := percB_len h
  match r, h, h3 with
  | a :: b :: c :: t, h, _ => exact h
theorem not_perc {r : List UInt8} {v : Int} {n : Nat} (h : nextP r = (v, n)) (hv : v ≠ 37) : percB r = false := by
  cases hp : percB r with
  | false => rfl
  | true =>
    obtain ⟨t, rfl⟩ := percB_front hp
    rw [nextP_1 (by decide)] at h
    cases h
    exact absurd rfl hv
theorem not_esc {r : List UInt8} {v : Int} {n : Nat} (h : nextP r = (v, n)) (hv : v ≠ 92) : esc2 r = false := by
  cases hp : esc2 r with
  | false => rfl
  | true =>
    obtain ⟨b, t, rfl, _⟩ := esc2_front hp
    rw [nextP_1 (by decide)] at h
    cases h
    exact absurd rfl hv
theorem stepS_cases {l : List UInt8} {j n m : Nat} {v : Int} {t : List UInt8} (hq : nextAt l (j : Int) = (v, m)) (h : stepS l j = some (t, n)) :
    m ≠ 0 ∧ (standsB v (decide (j = 0)) (decide (j + m = l.length)) = true ∧ n = m ∧ t = (l.drop j).take m ∨
      standsB v (decide (j = 0)) (decide (j + m = l.length)) = false ∧ (percB (l.drop j) = true ∧ n = 3 ∧ t = (l.drop j).take 3 ∨ percB (l.drop j) = false ∧ escB v = true ∧ n = m ∧ t = 92 :: (l.drop j).take 1)) := by
  unfold stepS at h
  rw [hq] at h
  simp only at h
  by_cases h0 : m = 0
  · rw [if_pos h0] at h; cases h
  rw [if_neg h0] at h
  refine ⟨h0, ?_⟩
  cases h1 : standsB v (decide (j = 0)) (decide (j + m = l.length)) with
  | true => rw [h1, if_pos rfl] at h; cases h; exact .inl ⟨rfl, rfl, rfl⟩
  | false =>
    rw [h1, if_neg (by simp)] at h
    refine .inr ⟨rfl, ?_⟩
    cases h2 : percB (l.drop j) with
    | true => rw [h2, if_pos rfl] at h; cases h; exact .inl ⟨rfl, rfl, rfl⟩
    | false =>
      rw [h2, if_neg (by simp)] at h
      refine .inr ⟨rfl, ?_⟩
      cases h3 : escB v with
      | true => rw [h3, if_pos rfl] at h; cases h; exact ⟨rfl, rfl, rfl⟩
      | false => rw [h3, if_neg (by simp)] at h; cases h
theorem stepS_ne {l : List UInt8} {j n : Nat} {t : List UInt8} (hj : j < l.length) (h : stepS l j = some (t, n)) : t ≠ [] := by
  obtain ⟨v, m, hq⟩ : ∃ v m, nextAt l (j : Int) = (v, m) := ⟨_, _, rfl⟩
  have hc := stepS_cases hq h
  rcases hc.2 with ⟨_, _, rfl⟩ | ⟨_, ⟨hp, _, rfl⟩ | ⟨_, _, _, rfl⟩⟩
  · intro e
    have := congrArg List.length e
    have h0 := hc.1
    simp at this
    omega
  · intro e
    have := congrArg List.length e
    simp at this
    omega
  · simp
theorem spellF_empty {s a : List UInt8} {j : Nat} (hj : j ≤ s.length) (h : spellF s j = some a) : a = [] ↔ j = s.length := by
  by_cases he : s.length ≤ j
  · rw [spellF_end he] at h
    cases h
    exact ⟨fun _ => by omega, fun _ => rfl⟩
  · refine ⟨fun e => ?_, fun e => by omega⟩
    subst e
    cases hst : stepS s j with
    | none => rw [spellF_none (by omega) hst] at h; cases h
    | some x =>
      obtain ⟨t, n⟩ := x
      rw [spellF_some (by omega) hst] at h
      cases ha : spellF s (j + n) with
      | none => rw [ha] at h; cases h
      | some a' =>
        rw [ha] at h
        have : t ++ a' = [] := Option.some.inj h
        exact absurd (List.append_eq_nil_iff.1 this).1 (stepS_ne (by omega) hst)
theorem drop_take_add (s : List UInt8) (j n : Nat) : (s.drop j).take n ++ s.drop (j + n) = s.drop j := by
  rw [← List.drop_drop, List.take_append_drop]
/-- what is spelled says the text -/
theorem spell_local : ∀ (k : Nat) (s P a : List UInt8) (j : Nat), s.length - j ≤ k → j ≤ s.length → (P = [] ↔ j = 0) → spellF s j = some a → locF (P ++ a) P.length = .inl (s.drop j)
  | k, s, P, a, j, hk, hj, hP, h => by
    by_cases he : s.length ≤ j
    · rw [spellF_end he] at h
      cases h
      rw [locF_end (by simp), List.drop_of_length_le he]
    have hlt : j < s.length := by omega
    cases hst : stepS s j with
    | none => rw [spellF_none hlt hst] at h; cases h
    | some x =>
      obtain ⟨t, n⟩ := x
      rw [spellF_some hlt hst] at h
      have hb := stepS_bound hst
      cases ha : spellF s (j + n) with
      | none => rw [ha] at h; cases h
      | some a' =>
        rw [ha] at h
        obtain rfl : t ++ a' = a := Option.some.inj h
        have hne := stepS_ne hlt hst
        have hem := spellF_empty (by omega) ha
        match k, hk with
        | 0, hk => omega
        | k + 1, hk =>
          have ih := spell_local k s (P ++ t) a' (j + n) (by omega) (by omega) ⟨fun e => absurd (List.append_eq_nil_iff.1 e).2 hne, fun e => by omega⟩ ha
          have hpl : P.length < (P ++ (t ++ a')).length := by have := List.length_pos_iff.2 hne; simp; omega
          have hstL : stepL (P ++ (t ++ a')) P.length = .inl ((s.drop j).take n, t.length) := by
            obtain ⟨v, m, hq⟩ : ∃ v m, nextAt s (j : Int) = (v, m) := ⟨_, _, rfl⟩
            have hc := stepS_cases hq hst
            have hq' := hq
            rw [nextAt_nat] at hq'
            have hpj : decide (P.length = 0) = decide (j = 0) := by rw [Bool.eq_iff_iff]; simp; exact hP
            unfold stepL
            rw [List.drop_left, nextAt_nat, List.drop_left]
            rcases hc.2 with ⟨hs, rfl, rfl⟩ | ⟨hs, ⟨hp, rfl, rfl⟩ | ⟨hp, hE, rfl, rfl⟩⟩
            · have hn := nextP_take a' hq' hc.1
              have h37 : v ≠ 37 := fun e => by rw [e, stands_37] at hs; cases hs
              have h92 : v ≠ 92 := fun e => by rw [e, stands_92] at hs; cases hs
              have hlen : ((s.drop j).take n).length = n := by simp; omega
              rw [not_perc hn h37, if_neg (by simp), not_esc hn h92, if_neg (by simp), hn, if_neg hc.1, if_neg (by rintro (e | e); exact h37 e; exact h92 e), hpj]
              have hl : decide (P.length + n = (P ++ ((s.drop j).take n ++ a')).length) = decide (j + n = s.length) := by
                rw [Bool.eq_iff_iff]
                simp only [decide_eq_true_eq, List.length_append, hlen]
                rw [← hem, ← List.length_eq_zero_iff]
                omega
              rw [hl, hs, if_pos rfl, hlen, List.take_left' hlen]
            · have hlen : ((s.drop j).take 3).length = 3 := by simp; omega
              rw [percB_take hp, if_pos rfl, hlen, List.take_left' hlen]
            · have hv := escB_low v hE
              have hn1 := nextAt_ascii hq hc.1 hv.2
              subst hn1
              obtain ⟨c, r, hr⟩ : ∃ c r, s.drop j = c :: r := by
                cases hd : s.drop j with
                | nil => have := congrArg List.length hd; simp at this; omega
                | cons c r => exact ⟨c, r, rfl⟩
              have hvc := nextAt_head hq hc.1 hv.2 hr
              subst hvc
              rw [hr]
              have hpn : percB (92 :: List.take 1 (c :: r) ++ a') = false := by
                cases hp : percB (92 :: List.take 1 (c :: r) ++ a') with
                | false => rfl
                | true => obtain ⟨t, ht⟩ := percB_front hp; simp at ht
              have hes : esc2 (92 :: List.take 1 (c :: r) ++ a') = true := by simp [esc2, hE]
              rw [hpn, if_neg (by simp), hes, if_pos rfl]
              have : (P ++ (92 :: List.take 1 (c :: r) ++ a')).drop (P.length + 1) = List.take 1 (c :: r) ++ a' := by
                rw [← List.drop_drop, List.drop_left]; rfl
              rw [this]
              rfl
          rw [locF_step hpl hstL, ← List.append_assoc, ← List.length_append, ih]
          simp only [putF, drop_take_add]

theorem stepL_cases {l : List UInt8} {j n m : Nat} {v : Int} {t : List UInt8} (hq : nextAt l (j : Int) = (v, m)) (h : stepL l j = .inl (t, n)) :
    percB (l.drop j) = true ∧ n = 3 ∧ t = (l.drop j).take 3 ∨ esc2 (l.drop j) = true ∧ n = 2 ∧ t = (l.drop (j + 1)).take 1 ∨
    m ≠ 0 ∧ standsB v (decide (j = 0)) (decide (j + m = l.length)) = true ∧ n = m ∧ t = (l.drop j).take m := by
  unfold stepL at h
  rw [hq] at h
  simp only at h
  by_cases h1 : percB (l.drop j) = true
  · rw [if_pos h1] at h; cases h; exact .inl ⟨h1, rfl, rfl⟩
  rw [if_neg h1] at h
  by_cases h2 : esc2 (l.drop j) = true
  · rw [if_pos h2] at h; cases h; exact .inr (.inl ⟨h2, rfl, rfl⟩)
  rw [if_neg h2] at h
  by_cases h3 : m = 0
  · rw [if_pos h3] at h; cases h
  rw [if_neg h3] at h
  by_cases h4 : v = 37 ∨ v = 92
  · rw [if_pos h4] at h; cases h
  rw [if_neg h4] at h
  by_cases h5 : standsB v (decide (j = 0)) (decide (j + m = l.length)) = true
  · rw [if_pos h5] at h; cases h; exact .inr (.inr ⟨h3, h5, rfl, rfl⟩)
  · rw [if_neg h5] at h; cases h
theorem stepL_ne {l : List UInt8} {j n : Nat} {t : List UInt8} (h : stepL l j = .inl (t, n)) : t ≠ [] := by
  have hb := stepL_bound h
  obtain ⟨v, m, hq⟩ : ∃ v m, nextAt l (j : Int) = (v, m) := ⟨_, _, rfl⟩
  intro e
  have := congrArg List.length e
  rcases stepL_cases hq h with ⟨_, rfl, rfl⟩ | ⟨_, rfl, rfl⟩ | ⟨h0, _, rfl, rfl⟩ <;> simp at this <;> omega
/-- a step of a name that says something -/
theorem locF_inv {l c : List UInt8} {j : Nat} (hj : j < l.length) (h : locF l j = .inl c) : ∃ t n r, stepL l j = .inl (t, n) ∧ locF l (j + n) = .inl r ∧ c = t ++ r := by
  cases hs : stepL l j with
  | inr e => rw [locF_bad hj hs] at h; cases h
  | inl x =>
    obtain ⟨t, n⟩ := x
    rw [locF_step hj hs] at h
    cases hr : locF l (j + n) with
    | inr e => rw [hr] at h; cases h
    | inl r => rw [hr] at h; exact ⟨t, n, r, rfl, hr, (Sum.inl.inj h).symm⟩
theorem locF_empty {s a : List UInt8} {j : Nat} (hj : j ≤ s.length) (h : locF s j = .inl a) : a = [] ↔ j = s.length := by
  by_cases he : s.length ≤ j
  · rw [locF_end he] at h
    cases h
    exact ⟨fun _ => by omega, fun _ => rfl⟩
  · refine ⟨fun e => ?_, fun e => by omega⟩
    subst e
    obtain ⟨t, n, r, hs, hr, hc⟩ := locF_inv (by omega) h
    exact absurd (List.append_eq_nil_iff.1 hc.symm).1 (stepL_ne hs)
theorem hex_low {c : UInt8} (h : hexB (c.toNat : Int) = true) : c.toNat < 128 ∧ c.toNat ≠ 37 ∧ escB (c.toNat : Int) = false := by
  have h' : (48 ≤ c.toNat ∧ c.toNat ≤ 57 ∨ 97 ≤ c.toNat ∧ c.toNat ≤ 102) ∨ 65 ≤ c.toNat ∧ c.toNat ≤ 70 := by
    unfold hexB at h
    simp only [Bool.or_eq_true, decide_eq_true_eq] at h
    omega
  refine ⟨by omega, by omega, ?_⟩
  unfold escB
  rw [List.any_eq_false]
  intro x hx
  have : ∀ y ∈ escs, ¬ ((48 ≤ y.toNat ∧ y.toNat ≤ 57 ∨ 97 ≤ y.toNat ∧ y.toNat ≤ 102) ∨ 65 ≤ y.toNat ∧ y.toNat ≤ 70) := by decide
  have hx' := this x hx
  simp only [beq_iff_eq]
  omega
/-- a hex digit that is said stood as it is -/
theorem loc_hex {s r : List UInt8} {j : Nat} {x : UInt8} (hj : j ≤ s.length) (hx : hexB (x.toNat : Int) = true) (h : locF s j = .inl (x :: r)) : j < s.length ∧ locF s (j + 1) = .inl r := by
  have hlt : j < s.length := by
    have := locF_empty hj h
    rcases Nat.lt_or_ge j s.length with h' | h'
    · exact h'
    · exact absurd (this.2 (by omega)) (by simp)
  refine ⟨hlt, ?_⟩
  have hh := hex_low hx
  obtain ⟨t, n, r', hs, hr, hc⟩ := locF_inv hlt h
  obtain ⟨v, m, hq⟩ : ∃ v m, nextAt s (j : Int) = (v, m) := ⟨_, _, rfl⟩
  have hb := stepL_bound hs
  rcases stepL_cases hq hs with ⟨hp, rfl, rfl⟩ | ⟨he, rfl, rfl⟩ | ⟨h0, hst, rfl, rfl⟩
  · obtain ⟨u, hu⟩ := percB_front hp
    rw [hu] at hc
    simp at hc
    exact absurd (by rw [hc.1]; rfl) hh.2.1
  · obtain ⟨b, u, hu, hE⟩ := esc2_front he
    have h1 : s.drop (j + 1) = b :: u := by rw [← List.drop_drop, hu]; rfl
    rw [h1] at hc
    simp at hc
    rw [← hc.1, hh.2.2] at hE
    cases hE
  · obtain ⟨c, u, hu⟩ : ∃ c u, s.drop j = c :: u := by
      cases hd : s.drop j with
      | nil => have := congrArg List.length hd; simp at this; omega
      | cons c u => exact ⟨c, u, rfl⟩
    obtain ⟨m, rfl⟩ : ∃ m, n = m + 1 := ⟨n - 1, by omega⟩
    rw [hu] at hc
    simp only [List.take_succ_cons, List.cons_append, List.cons.injEq] at hc
    obtain ⟨rfl, hc⟩ := hc
    rw [nextAt_low hu hh.1] at hq
    cases hq
    simp at hc
    rw [hc]
    exact hr
/-- what a local name says can be spelled, by no more bytes -/
theorem local_spell : ∀ (k : Nat) (s Q c : List UInt8) (j : Nat), s.length - j ≤ k → j ≤ s.length → (Q = [] ↔ j = 0) → locF s j = .inl c → ∃ d, spellF (Q ++ c) Q.length = some d ∧ d.length ≤ s.length - j
  | k, s, Q, c, j, hk, hj, hQ, h => by
    by_cases he : s.length ≤ j
    · rw [locF_end he] at h
      cases h
      exact ⟨[], spellF_end (by simp), by simp⟩
    have hlt : j < s.length := by omega
    obtain ⟨t, n, r, hst, hr, rfl⟩ := locF_inv hlt h
    have hb := stepL_bound hst
    have hne := stepL_ne hst
    have hem := locF_empty (by omega) hr
    match k, hk with
    | 0, hk => omega
    | k + 1, hk =>
      have hpl : Q.length < (Q ++ (t ++ r)).length := by have := List.length_pos_iff.2 hne; simp; omega
      have step : ∀ (T R : List UInt8) (N j' : Nat), t ++ r = T ++ R → T ≠ [] → T.length = N → j < j' → j' ≤ s.length → locF s j' = .inl R → ∀ W, stepS (Q ++ (t ++ r)) Q.length = some (W, N) → W.length ≤ j' - j → ∃ d, spellF (Q ++ (t ++ r)) Q.length = some d ∧ d.length ≤ s.length - j := by
        intro T R N j' e hT hN hj1 hj2 hl W hW hWl
        obtain ⟨d, hd, hdl⟩ := local_spell k s (Q ++ T) R j' (by omega) hj2 ⟨fun e => absurd (List.append_eq_nil_iff.1 e).2 hT, fun e => by omega⟩ hl
        rw [List.append_assoc, ← e, List.length_append, hN] at hd
        refine ⟨W ++ d, by rw [spellF_some hpl hW, hd]; rfl, by simp; omega⟩
      obtain ⟨v, m, hq⟩ : ∃ v m, nextAt s (j : Int) = (v, m) := ⟨_, _, rfl⟩
      have hq' := hq
      rw [nextAt_nat] at hq'
      have hqj : decide (Q.length = 0) = decide (j = 0) := by rw [Bool.eq_iff_iff]; simp; exact hQ
      have hS : stepS (Q ++ (t ++ r)) Q.length = if (nextP (t ++ r)).2 = 0 then none
        else if standsB (nextP (t ++ r)).1 (decide (j = 0)) (decide ((nextP (t ++ r)).2 = (t ++ r).length)) = true then some ((t ++ r).take (nextP (t ++ r)).2, (nextP (t ++ r)).2)
        else if percB (t ++ r) = true then some ((t ++ r).take 3, 3)
        else if escB (nextP (t ++ r)).1 = true then some (92 :: (t ++ r).take 1, (nextP (t ++ r)).2)
        else none := by
        unfold stepS
        rw [List.drop_left, nextAt_nat, List.drop_left, hqj]
        have : decide (Q.length + (nextP (t ++ r)).2 = (Q ++ (t ++ r)).length) = decide ((nextP (t ++ r)).2 = (t ++ r).length) := by
          rw [Bool.eq_iff_iff]; simp only [decide_eq_true_eq, List.length_append]; omega
        rw [this]
      rcases stepL_cases hq hst with ⟨hp, rfl, rfl⟩ | ⟨hE, rfl, rfl⟩ | ⟨h0, hs, rfl, rfl⟩
      · have hlen : ((s.drop j).take 3).length = 3 := by simp; omega
        obtain ⟨u, hu⟩ := percB_front (percB_take hp r)
        have hn : nextP ((s.drop j).take 3 ++ r) = (37, 1) := by rw [hu, nextP_1 (by decide)]; rfl
        rw [hn] at hS
        simp only at hS
        rw [if_neg (by decide), stands_37, if_neg (by simp), percB_take hp, if_pos rfl, List.take_left' hlen] at hS
        exact step _ r 3 (j + 3) rfl hne hlen (by omega) (by omega) hr _ hS (by rw [hlen]; omega)
      · obtain ⟨b, u, hu, hEb⟩ := esc2_front hE
        have h1 : (s.drop (j + 1)).take 1 = [b] := by rw [← List.drop_drop, hu]; rfl
        rw [h1] at hS step hne ⊢
        have hbl := (escB_low _ hEb).2
        have hn : nextP ([b] ++ r) = ((b.toNat : Int), 1) := by
          rw [show [b] ++ r = b :: r from rfl, nextP_1 (by omega)]
        rw [hn] at hS
        simp only at hS
        rw [if_neg (by decide)] at hS
        by_cases g1 : standsB (b.toNat : Int) (decide (j = 0)) (decide (1 = ([b] ++ r).length)) = true
        · rw [if_pos g1] at hS
          exact step [b] r 1 (j + 2) rfl (by simp) rfl (by omega) (by omega) hr _ hS (by simp)
        · rw [if_neg g1] at hS
          by_cases g2 : percB ([b] ++ r) = true
          · rw [if_pos g2] at hS
            have h3 := percB_len g2
            match r, hr, hS, step, g2, h3 with
            | x :: y :: r, hr, hS, step, g2, _ =>
              have hxy : hexB (x.toNat : Int) = true ∧ hexB (y.toNat : Int) = true := by
                simp [percB] at g2
                exact g2.2
              obtain ⟨l1, r1⟩ := loc_hex (by omega) hxy.1 hr
              obtain ⟨l2, r2⟩ := loc_hex (by omega) hxy.2 r1
              exact step [b, x, y] r 3 (j + 2 + 1 + 1) rfl (by simp) rfl (by omega) (by omega) r2 _ hS (by simp; omega)
            | [], _, _, _, _, h3 => simp at h3
            | [_], _, _, _, _, h3 => simp at h3
          · rw [if_neg g2, if_pos hEb] at hS
            exact step [b] r 1 (j + 2) rfl (by simp) rfl (by omega) (by omega) hr _ hS (by simp)
      · have hn := nextP_take r hq' h0
        have hlen : ((s.drop j).take n).length = n := by simp; omega
        rw [hn] at hS
        simp only at hS
        have hl : decide (n = ((s.drop j).take n ++ r).length) = decide (j + n = s.length) := by
          rw [Bool.eq_iff_iff]
          simp only [decide_eq_true_eq, List.length_append, hlen]
          rw [← hem, ← List.length_eq_zero_iff]
          omega
        rw [if_neg h0, hl, hs, if_pos rfl, List.take_left' hlen] at hS
        exact step _ r n (j + n) rfl hne hlen (by omega) (by omega) hr _ hS (by rw [hlen]; omega)
theorem spellF_len : ∀ (k : Nat) (s a : List UInt8) (j : Nat), s.length - j ≤ k → spellF s j = some a → a.length ≤ 2 * (s.length - j)
  | k, s, a, j, hk, h => by
    by_cases he : s.length ≤ j
    · rw [spellF_end he] at h
      cases h
      simp
    cases hst : stepS s j with
    | none => rw [spellF_none (by omega) hst] at h; cases h
    | some x =>
      obtain ⟨t, n⟩ := x
      rw [spellF_some (by omega) hst] at h
      have hb := stepS_bound hst
      cases ha : spellF s (j + n) with
      | none => rw [ha] at h; cases h
      | some a' =>
        rw [ha] at h
        obtain rfl : t ++ a' = a := Option.some.inj h
        match k, hk with
        | 0, hk => omega
        | k + 1, hk =>
          have := spellF_len k s a' (j + n) (by omega) ha
          rw [List.length_append]
          omega
theorem locF_len : ∀ (k : Nat) (s c : List UInt8) (j : Nat), s.length - j ≤ k → locF s j = .inl c → c.length ≤ s.length - j
  | k, s, c, j, hk, h => by
    by_cases he : s.length ≤ j
    · rw [locF_end he] at h
      cases h
      simp
    obtain ⟨t, n, r, hst, hr, rfl⟩ := locF_inv (by omega) h
    have hb := stepL_bound hst
    match k, hk with
    | 0, hk => omega
    | k + 1, hk =>
      have := locF_len k s r (j + n) (by omega) hr
      rw [List.length_append]
      omega
theorem back_spell {s a : List UInt8} (h : spellF s 0 = some a) : locF a 0 = .inl s := by
  have := spell_local s.length s [] a 0 (by omega) (by omega) ⟨fun _ => rfl, fun _ => rfl⟩ h
  simpa using this
theorem back_local {s c : List UInt8} (h : locF s 0 = .inl c) : ∃ d, spellF c 0 = some d ∧ d.length ≤ s.length ∧ locF d 0 = .inl c := by
  obtain ⟨d, h1, h2⟩ := local_spell s.length s [] c 0 (by omega) (by omega) ⟨fun _ => rfl, fun _ => rfl⟩ h
  have h1' : spellF c 0 = some d := by simpa using h1
  exact ⟨d, h1', by simpa using h2, back_spell h1'⟩
end Go.Proofs.YtfjcbodkjjmagaaDoor
