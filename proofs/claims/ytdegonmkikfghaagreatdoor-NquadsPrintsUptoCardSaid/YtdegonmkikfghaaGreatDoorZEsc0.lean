/-
  Scalars and their bytes; texts written with escapes, and read back: the plain words. No program in sight. By an AI agent.
-/
import Derived.Test.YtdegonmkikfghaaGreatDoorZGPlain
import Derived.Test.YtdegonmkikfghaaGreatDoorZTerm0
namespace Go.Proofs.YtdegonmkikfghaaGreatDoor
open Go.RowKit
set_option maxRecDepth 100000

/-- a scalar's bytes -/
def byU (r : Int) : List UInt8 := (bytesOf r).map fun x => UInt8.ofNat x.toNat
/-- Go's own reading of a scalar, where one stands -/
theorem B_get_drop {l : List UInt8} {j k : Nat} {c : UInt8} (h : (l.drop j)[k]? = some c) : j + k < (B l).size ∧ ((B l).get! (j + k)).toNat = c.toNat := by
  rw [List.getElem?_drop] at h
  obtain ⟨h1, h2⟩ := List.getElem?_eq_some_iff.1 h
  refine ⟨by rw [B_size]; exact h1, ?_⟩
  have h3 : j + k < (B l).size := by rw [B_size]; exact h1
  have : (B l).get! (j + k) = (B l)[j + k] := by simp [ByteArray.get!, getElem!_pos, B, ByteArray.getElem_eq_getElem_data, h1]
  rw [this, B_get, h2]
theorem decode_next {l : List UInt8} {j n : Nat} {v : Int} (h : nextAt l (j : Int) = (v, n)) (hn : n ≠ 0) : Utf8.decode (B l) j = (v.toNat, n) := by
  rw [nextAt_nat] at h
  rcases hd : l.drop j with _ | ⟨c, t⟩
  · rw [hd, nextP] at h; cases h; exact absurd rfl hn
  have g0 : (l.drop j)[0]? = some c := by rw [hd]; rfl
  obtain ⟨s0, e0⟩ := B_get_drop g0
  rw [Nat.add_zero] at s0 e0
  rw [hd] at h
  by_cases c1 : c.toNat < 128
  · rw [nextP_1 c1] at h
    cases h
    unfold Utf8.decode
    simp only [Nat.add_zero, e0]
    rw [if_pos c1]
    simp
  by_cases c2 : c.toNat < 192
  · rw [nextP_none (.inl (by unfold leadN; simp [c1, c2]))] at h
    cases h; exact absurd rfl hn
  by_cases c3 : c.toNat < 224
  · have hl : leadN c.toNat = 2 := by unfold leadN; simp [c1, c2, c3]
    have hv : leadV c.toNat = (c.toNat : Int) % 32 := by unfold leadV; simp [c1, c2, c3]
    rcases t with _ | ⟨d, t⟩
    · rw [nextP_none (.inr (by rw [hl]; simp))] at h
      cases h; exact absurd rfl hn
    have g1 : (l.drop j)[1]? = some d := by rw [hd]; rfl
    obtain ⟨s1, e1⟩ := B_get_drop g1
    rw [nextP, if_neg (by rw [hl]; simp), hl, hv] at h
    simp only [Nat.add_one_sub_one, tailV] at h
    by_cases d1 : d.toNat / 64 = 2
    · rw [if_pos d1] at h
      simp only [finN] at h
      split at h
      · cases h; exact absurd rfl hn
      · next hc =>
        cases h
        rw [not_or] at hc
        obtain ⟨h5, h6⟩ := hc
        simp only [leastOf] at h5
        have h7 : scal ((c.toNat : Int) % 32 * 64 + (d.toNat : Int) % 64) = true := by simpa using h6
        unfold Utf8.decode
        simp only [Nat.add_zero, e0, e1]
        rw [if_neg c1, if_pos (by simp [s1, d1]; omega), if_pos (by simp at h5; omega)]
        congr 1 <;> omega
    · rw [if_neg d1] at h
      cases h; exact absurd rfl hn
  by_cases c4 : c.toNat < 240
  · have hl : leadN c.toNat = 3 := by unfold leadN; simp [c1, c2, c3, c4]
    have hv : leadV c.toNat = (c.toNat : Int) % 16 := by unfold leadV; simp [c1, c2, c3, c4]
    rcases t with _ | ⟨d, _ | ⟨e, t⟩⟩
    · rw [nextP_none (.inr (by rw [hl]; simp))] at h
      cases h; exact absurd rfl hn
    · rw [nextP_none (.inr (by rw [hl]; simp))] at h
      cases h; exact absurd rfl hn
    have g1 : (l.drop j)[1]? = some d := by rw [hd]; rfl
    have g2 : (l.drop j)[2]? = some e := by rw [hd]; rfl
    obtain ⟨s1, e1⟩ := B_get_drop g1
    obtain ⟨s2, e2⟩ := B_get_drop g2
    rw [nextP, if_neg (by rw [hl]; simp), hl, hv] at h
    simp only [Nat.reduceSub, tailV] at h
    by_cases d1 : d.toNat / 64 = 2
    · rw [if_pos d1] at h
      by_cases d2 : e.toNat / 64 = 2
      · rw [if_pos d2] at h
        simp only [finN] at h
        split at h
        · cases h; exact absurd rfl hn
        · next hc =>
          cases h
          rw [not_or] at hc
          obtain ⟨h5, h6⟩ := hc
          simp only [leastOf] at h5
          have h7 : scal (((c.toNat : Int) % 16 * 64 + (d.toNat : Int) % 64) * 64 + (e.toNat : Int) % 64) = true := by simpa using h6
          unfold scal at h7
          simp at h7
          unfold Utf8.decode
          simp only [Nat.add_zero, e0, e1, e2]
          rw [if_neg c1, if_neg (by simp; omega), if_pos (by simp [s1, s2, d1, d2]; omega), if_pos (by simp [Utf8.valid]; simp at h5; omega)]
          congr 1 <;> omega
      · rw [if_neg d2] at h
        cases h; exact absurd rfl hn
    · rw [if_neg d1] at h
      cases h; exact absurd rfl hn
  by_cases c5 : c.toNat < 248
  · have hl : leadN c.toNat = 4 := by unfold leadN; simp [c1, c2, c3, c4, c5]
    have hv : leadV c.toNat = (c.toNat : Int) % 8 := by unfold leadV; simp [c1, c2, c3, c4, c5]
    rcases t with _ | ⟨d, _ | ⟨e, _ | ⟨f, t⟩⟩⟩
    · rw [nextP_none (.inr (by rw [hl]; simp))] at h
      cases h; exact absurd rfl hn
    · rw [nextP_none (.inr (by rw [hl]; simp))] at h
      cases h; exact absurd rfl hn
    · rw [nextP_none (.inr (by rw [hl]; simp))] at h
      cases h; exact absurd rfl hn
    have g1 : (l.drop j)[1]? = some d := by rw [hd]; rfl
    have g2 : (l.drop j)[2]? = some e := by rw [hd]; rfl
    have g3 : (l.drop j)[3]? = some f := by rw [hd]; rfl
    obtain ⟨s1, e1⟩ := B_get_drop g1
    obtain ⟨s2, e2⟩ := B_get_drop g2
    obtain ⟨s3, e3⟩ := B_get_drop g3
    rw [nextP, if_neg (by rw [hl]; simp), hl, hv] at h
    simp only [Nat.reduceSub, tailV] at h
    by_cases d1 : d.toNat / 64 = 2
    · rw [if_pos d1] at h
      by_cases d2 : e.toNat / 64 = 2
      · rw [if_pos d2] at h
        by_cases d3 : f.toNat / 64 = 2
        · rw [if_pos d3] at h
          simp only [finN] at h
          split at h
          · cases h; exact absurd rfl hn
          · next hc =>
            cases h
            rw [not_or] at hc
            obtain ⟨h5, h6⟩ := hc
            simp only [leastOf] at h5
            have h7 : scal ((((c.toNat : Int) % 8 * 64 + (d.toNat : Int) % 64) * 64 + (e.toNat : Int) % 64) * 64 + (f.toNat : Int) % 64) = true := by simpa using h6
            unfold scal at h7
            simp at h7
            unfold Utf8.decode
            simp only [Nat.add_zero, e0, e1, e2, e3]
            rw [if_neg c1, if_neg (by simp; omega), if_neg (by simp; omega), if_pos (by simp [s1, s2, s3, d1, d2, d3]; omega), if_pos (by simp [Utf8.valid]; simp at h5; omega)]
            congr 1 <;> omega
        · rw [if_neg d3] at h
          cases h; exact absurd rfl hn
      · rw [if_neg d2] at h
        cases h; exact absurd rfl hn
    · rw [if_neg d1] at h
      cases h; exact absurd rfl hn
  · rw [nextP_none (.inl (by unfold leadN; simp [c1, c2, c3, c4, c5]))] at h
    cases h; exact absurd rfl hn

/-! written with escapes -/
def hexU (n : Nat) : UInt8 := UInt8.ofNat (if n < 10 then 48 + n else 55 + n)
def digs4 (r : Nat) : List UInt8 := [hexU (r / 4096 % 16), hexU (r / 256 % 16), hexU (r / 16 % 16), hexU (r % 16)]
/-- the letter of an escape -/
def letF (r : Int) : Option UInt8 := if r = 9 then some 116 else if r = 8 then some 98 else if r = 10 then some 110 else if r = 13 then some 114 else if r = 12 then some 102 else if r = 34 then some 34 else if r = 92 then some 92 else none
def badA : List Int := [60, 62, 34, 123, 125, 124, 94, 96, 92]
/-- a scalar as it is written -/
def wrF (way r : Int) : List UInt8 :=
  if way = 1 then (match letF r with
    | some c => [92, c]
    | none => if r < 32 ∨ r = 127 then 92 :: 117 :: digs4 r.toNat else byU r)
  else if r ≤ 32 ∨ r ∈ badA then 92 :: 117 :: digs4 r.toNat else byU r
theorem byU_len (r : Int) : (byU r).length ≤ 4 := by
  unfold byU
  rw [List.length_map, bytesOf_len]
  split <;> (try split) <;> (try split) <;> omega
theorem wrF_len (way r : Int) : (wrF way r).length ≤ 6 := by
  have := byU_len r
  unfold wrF
  split
  · split
    · simp
    · split
      · simp [digs4]
      · omega
  · split
    · simp [digs4]
    · omega
/-- a text as it is written, from a place on -/
def escF (way : Int) (l : List UInt8) (j : Nat) : List UInt8 := if _h : l.length ≤ j then [] else if _h2 : (nextAt l j).2 = 0 then [] else wrF way (nextAt l j).1 ++ escF way l (j + (nextAt l j).2)
termination_by l.length - j
decreasing_by omega
theorem escF_end {way : Int} {l : List UInt8} {j : Nat} (h : l.length ≤ j) : escF way l j = [] := by rw [escF, dif_pos h]
theorem escF_go {way : Int} {l : List UInt8} {j n : Nat} {v : Int} (h : j < l.length) (hq : nextAt l (j : Int) = (v, n)) (hn : n ≠ 0) : escF way l j = wrF way v ++ escF way l (j + n) := by
  rw [escF, dif_neg (by omega), hq, dif_neg hn]
theorem escF_len (way : Int) (l : List UInt8) : ∀ (k j : Nat), l.length - j ≤ k → (escF way l j).length ≤ 6 * (l.length - j)
  | k, j, hk => by
    by_cases h : l.length ≤ j
    · rw [escF_end h]; simp
    obtain ⟨v, n, hq⟩ : ∃ v n, nextAt l (j : Int) = (v, n) := ⟨_, _, rfl⟩
    by_cases hn : n = 0
    · subst hn
      rw [escF, dif_neg h, hq, dif_pos rfl]; simp
    · rw [escF_go (by omega) hq hn, List.length_append]
      have h1 := wrF_len way v
      match k, hk with
      | 0, hk => omega
      | k + 1, hk =>
        have h2 := escF_len way l k (j + n) (by omega)
        have h3 := (nextAt_bound hq hn).2.1
        have h4 : j + n ≤ l.length := by omega
        omega

/-! read back -/
def hexV (c : UInt8) : Option Nat := if 48 ≤ c.toNat ∧ c.toNat ≤ 57 then some (c.toNat - 48) else if 97 ≤ c.toNat ∧ c.toNat ≤ 102 then some (c.toNat - 87) else if 65 ≤ c.toNat ∧ c.toNat ≤ 70 then some (c.toNat - 55) else none
/-- so many digits at a text's front, behind a number -/
def numV : Nat → List UInt8 → Nat → Option Nat
  | acc, _, 0 => some acc
  | _, [], _ + 1 => none
  | acc, c :: t, n + 1 => match hexV c with
    | none => none
    | some d => numV (acc * 16 + d) t n
def numF (t : List UInt8) (k : Nat) : Option Int := match numV 0 t k with
  | none => none
  | some v => if scal v = true then some v else none
end Go.Proofs.YtdegonmkikfghaaGreatDoor

/-
  A term's text, and the term at a place of a text: the plain words. No program in sight. By an AI agent.
-/
namespace Go.Proofs.YtdegonmkikfghaaGreatDoor
open Go.RowKit
set_option maxRecDepth 100000

/-- http://www.w3.org/2001/XMLSchema#string -/
def plainT : List UInt8 := [104, 116, 116, 112, 58, 47, 47, 119, 119, 119, 46, 119, 51, 46, 111, 114, 103, 47, 50, 48, 48, 49, 47, 88, 77, 76, 83, 99, 104, 101, 109, 97, 35, 115, 116, 114, 105, 110, 103]
/-- a text between angles -/
def angF (t : List UInt8) : List UInt8 := 60 :: (escF 2 t 0 ++ [62])
/-- a term's text -/
def textF (t : TermL) : List UInt8 :=
  if t.kind = 1 then angF t.text else if t.kind = 2 then 95 :: 58 :: t.text
  else 34 :: (escF 1 t.text 0 ++ (34 :: (if t.lang ≠ [] then 64 :: t.lang else if t.type ≠ plainT then 94 :: 94 :: angF t.type else [])))
def textN (t : TermL) : List UInt8 × Int := if termN t ≠ 0 then ([], termN t) else (textF t, 0)
/-- a quad's line -/
def lineF (q : QuadL) : List UInt8 := ([q.s, q.p, q.o, q.g].filter fun t => decide (t.kind ≠ 0)).flatMap (fun t => textF t ++ [32]) ++ [46]
def lineN (q : QuadL) : List UInt8 × Int := if quadN q ≠ 0 then ([], quadN q) else (lineF q, 0)
/-- a dataset's text -/
def linesF (l : List QuadL) : List UInt8 := l.flatMap fun q => lineF q ++ [10]
def printN (l : List QuadL) (most : Int) : List UInt8 × Int := if (validF l).2 ≠ 0 then ([], (validF l).2) else if most < ((linesF l).length : Int) then ([], 1) else (linesF l, 0)

/-! lines -/
end Go.Proofs.YtdegonmkikfghaaGreatDoor

/-
  A quad's line, part by part: plain words. No program in sight. By an AI agent.
-/
namespace Go.Proofs.YtdegonmkikfghaaGreatDoor
set_option maxRecDepth 100000

/-- the first k terms of a quad, each with a blank behind it -/
def partsF (q : QuadL) (k : Nat) : List UInt8 := ((([q.s, q.p, q.o, q.g].take k).filter fun t => decide (t.kind ≠ 0)).flatMap fun t => textF t ++ [32])
theorem partsF_add (t : TermL) (l : List TermL) : (((l ++ [t]).filter fun t => decide (t.kind ≠ 0)).flatMap fun t => textF t ++ [32]) = ((l.filter fun t => decide (t.kind ≠ 0)).flatMap fun t => textF t ++ [32]) ++ (if t.kind = 0 then [] else textF t ++ [32]) := by
  rw [List.filter_append, List.flatMap_append]
  congr 1
  by_cases h : t.kind = 0
  · simp [h]
  · simp [h]
theorem partsF_1 (q : QuadL) : partsF q (0 + 1) = partsF q 0 ++ (if q.s.kind = 0 then [] else textF q.s ++ [32]) := partsF_add q.s []
theorem partsF_2 (q : QuadL) : partsF q (1 + 1) = partsF q 1 ++ (if q.p.kind = 0 then [] else textF q.p ++ [32]) := partsF_add q.p [q.s]
theorem partsF_3 (q : QuadL) : partsF q (2 + 1) = partsF q 2 ++ (if q.o.kind = 0 then [] else textF q.o ++ [32]) := partsF_add q.o [q.s, q.p]
theorem partsF_4 (q : QuadL) : partsF q (3 + 1) = partsF q 3 ++ (if q.g.kind = 0 then [] else textF q.g ++ [32]) := partsF_add q.g [q.s, q.p, q.o]
theorem lineF_parts (q : QuadL) : lineF q = partsF q 4 ++ [46] := rfl
theorem textF_le {t : TermL} (h1 : t.text.length ≤ 1048576) (h2 : t.type.length ≤ 1048576) (h3 : t.lang.length ≤ 1048576) : (textF t).length ≤ 13631504 := by
  have e1 := escF_len 1 t.text t.text.length 0 (by omega)
  have e2 := escF_len 2 t.text t.text.length 0 (by omega)
  have e3 := escF_len 2 t.type t.type.length 0 (by omega)
  unfold textF angF
  split
  · simp; omega
  · split
    · simp; omega
    · split
      · simp; omega
      · split
        · simp; omega
        · simp; omega
theorem partsF_le (q : QuadL) (k : Nat) (h : ∀ t, (t = q.s ∨ t = q.p ∨ t = q.o ∨ t = q.g) → (textF t).length ≤ 13631504) : (partsF q k).length ≤ 54526020 := by
  have key : ∀ (M : Nat) (l : List TermL), (∀ t ∈ l, (textF t).length ≤ M) → (((l.filter fun t => decide (t.kind ≠ 0)).flatMap fun t => textF t ++ [32])).length ≤ l.length * (M + 1) := by
    intro M l
    induction l with
    | nil => intro _; simp
    | cons a r ih =>
      intro hl
      have h1 := hl a (List.mem_cons_self ..)
      have h2 := ih fun t ht => hl t (List.mem_cons_of_mem _ ht)
      rw [List.length_cons, Nat.succ_mul]
      by_cases hk : a.kind = 0
      · rw [List.filter_cons_of_neg (by simp [hk])]
        omega
      · rw [List.filter_cons_of_pos (by simp [hk]), List.flatMap_cons, List.length_append, List.length_append, List.length_singleton]
        omega
  have h1 := key 13631504 ([q.s, q.p, q.o, q.g].take k) (fun t ht => h t (by have := List.mem_of_mem_take ht; simpa using this))
  have h2 : ([q.s, q.p, q.o, q.g].take k).length ≤ 4 := by rw [List.length_take]; exact Nat.le_trans (Nat.min_le_right _ _) (Nat.le_refl 4)
  have h3 := Nat.mul_le_mul_right (13631504 + 1) h2
  have h4 := Nat.le_trans h1 h3
  unfold partsF
  exact h4
theorem lineF_le {q : QuadL} (h : ∀ t, (t = q.s ∨ t = q.p ∨ t = q.o ∨ t = q.g) → t.text.length ≤ 1048576 ∧ t.type.length ≤ 1048576 ∧ t.lang.length ≤ 1048576) : (lineF q).length ≤ 54526021 := by
  have := partsF_le q 4 (fun t ht => textF_le (h t ht).1 (h t ht).2.1 (h t ht).2.2)
  rw [lineF_parts, List.length_append]
  simp
  omega
theorem quad_term_ok {q : QuadL} (h : quadN q = 0) (t : TermL) (ht : t = q.s ∨ t = q.p ∨ t = q.o ∨ t = q.g) (hk : t.kind ≠ 0) : termN t = 0 := by
  unfold quadN at h
  split at h
  · omega
  split at h
  · next h2 => exact absurd h h2
  next hs =>
  split at h
  · omega
  split at h
  · next h2 => exact absurd h h2
  next hp =>
  split at h
  · omega
  split at h
  · next h2 => exact absurd h h2
  next ho =>
  rcases ht with rfl | rfl | rfl | rfl
  · simpa using hs
  · simpa using hp
  · simpa using ho
  · split at h
    · next h2 => rw [h2] at hk; exact absurd rfl hk
    split at h
    · omega
    · exact h
end Go.Proofs.YtdegonmkikfghaaGreatDoor

/-
  A dataset's text, quad by quad: plain laws. No program in sight. By an AI agent.
-/
namespace Go.Proofs.YtdegonmkikfghaaGreatDoor
set_option maxRecDepth 100000

theorem linesF_take (l : List QuadL) (k : Nat) (h : k < l.length) : linesF (l.take (k + 1)) = (linesF (l.take k) ++ lineF l[k]) ++ [10] := by
  unfold linesF
  rw [List.take_succ_eq_append_getElem h, List.flatMap_append]
  simp
theorem linesF_le : ∀ (l : List QuadL), (∀ q ∈ l, (lineF q).length ≤ 54526021) → (linesF l).length ≤ l.length * (54526021 + 1)
  | [], _ => by simp [linesF]
  | q :: r, h => by
    have h1 := h q (List.mem_cons_self ..)
    have h2 := linesF_le r fun x hx => h x (List.mem_cons_of_mem _ hx)
    have e : linesF (q :: r) = (lineF q ++ [10]) ++ linesF r := rfl
    rw [e, List.length_cons, Nat.succ_mul, List.length_append, List.length_append, List.length_singleton]
    omega
theorem linesF_big {l : List QuadL} (hl : l.length ≤ 1048576) (h : ∀ q ∈ l, (lineF q).length ≤ 54526021) : (linesF l).length ≤ 57174678110208 := by
  have h1 := linesF_le l h
  have h2 := Nat.mul_le_mul_right (54526021 + 1) hl
  exact Nat.le_trans (Nat.le_trans h1 h2) (by decide)
theorem linesF_part (l : List QuadL) (k : Nat) : (linesF (l.take k)).length ≤ (linesF l).length := by
  have e : linesF l = linesF (l.take k) ++ linesF (l.drop k) := by
    unfold linesF
    rw [← List.flatMap_append, List.take_append_drop]
  rw [e, List.length_append]
  omega
theorem printN_bad {l : List QuadL} {most : Int} (h : (validF l).2 ≠ 0) : printN l most = ([], (validF l).2) := by unfold printN; rw [if_pos h]
theorem printN_big {l : List QuadL} {most : Int} (h : (validF l).2 = 0) (k : Nat) (hm : most < ((linesF (l.take k)).length : Int)) : printN l most = ([], 1) := by
  have := linesF_part l k
  unfold printN
  rw [if_neg (by rw [h]; simp), if_pos (by omega)]
theorem printN_ok {l : List QuadL} {most : Int} (h : (validF l).2 = 0) (hm : ((linesF l).length : Int) ≤ most) : printN l most = (linesF l, 0) := by
  unfold printN
  rw [if_neg (by rw [h]; simp), if_neg (by omega)]
theorem printN_len {l : List QuadL} {most : Int} {M : Nat} (h : (linesF l).length ≤ M) : (printN l most).1.length ≤ M := by
  unfold printN
  split
  · simp
  · split
    · simp
    · exact h
end Go.Proofs.YtdegonmkikfghaaGreatDoor
