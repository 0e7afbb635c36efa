/-
  The scalar at a text's front, as the program reads it and as the reference does: one answer. No program in sight. By an AI agent.
-/
import Derived.Test.YtfjcbodkjjmagaaDoorKit
namespace Go.Proofs.YtfjcbodkjjmagaaDoor
open Go.RowKit
set_option maxRecDepth 100000

def scal (r : Int) : Bool := decide (0 ≤ r) && decide (r ≤ 1114111) && (decide (r < 55296) || decide (57343 < r))
/-- how many bytes begin with this one; 0: none do -/
def leadN (c : Nat) : Nat := if c < 128 then 1 else if c < 192 then 0 else if c < 224 then 2 else if c < 240 then 3 else if c < 248 then 4 else 0
/-- its own bits -/
def leadV (c : Nat) : Int := if c < 128 then c else if c < 192 then 0 else if c < 224 then (c : Int) % 32 else if c < 240 then (c : Int) % 16 else if c < 248 then (c : Int) % 8 else 0
def leastOf (n : Nat) : Int := if n = 2 then 128 else if n = 3 then 2048 else if n = 4 then 65536 else 0
/-- the bytes that follow, read on -/
def tailV : Int → List UInt8 → Nat → Option Int
  | acc, _, 0 => some acc
  | _, [], _ + 1 => none
  | acc, c :: t, n + 1 => if c.toNat / 64 = 2 then tailV (acc * 64 + (c.toNat : Int) % 64) t n else none
def finN (n : Nat) : Option Int → Int × Nat
  | none => (0, 0)
  | some v => if v < leastOf n ∨ scal v = false then (0, 0) else (v, n)
/-- the program's: the scalar and how many bytes it has; 0 bytes: none -/
def nextP : List UInt8 → Int × Nat
  | [] => (0, 0)
  | c :: t => if leadN c.toNat = 0 ∨ t.length + 1 < leadN c.toNat then (0, 0) else finN (leadN c.toNat) (tailV (leadV c.toNat) t (leadN c.toNat - 1))

/-- the reference's: a scalar's bytes -/
def bytesOf (r : Int) : List Int :=
  if r < 128 then [r % 256] else if r < 2048 then [(192 + r / 64) % 256, (128 + r % 64) % 256]
  else if r < 65536 then [(224 + r / 4096) % 256, (128 + r / 64 % 64) % 256, (128 + r % 64) % 256]
  else [(240 + r / 262144) % 256, (128 + r / 4096 % 64) % 256, (128 + r / 64 % 64) % 256, (128 + r % 64) % 256]
def leadOf (n : Nat) : Int := if n = 2 then 192 else if n = 3 then 224 else if n = 4 then 240 else 0
def sumV (b : List UInt8) : Int := match b with
  | [] => 0
  | c :: t => t.foldl (fun r d => r * 64 + (d.toNat : Int) - 128) ((c.toNat : Int) - leadOf b.length)
def ints (b : List UInt8) : List Int := b.map fun c => (c.toNat : Int)
def guessV (b : List UInt8) : Int := if scal (sumV b) = true ∧ bytesOf (sumV b) = ints b then sumV b else -1
/-- from n bytes on, up to 4 -/
def nextFrom (r : List UInt8) : Nat → Nat → Int × Nat
  | 0, _ => (0, 0)
  | k + 1, n => if n ≤ r.length then (if 0 ≤ guessV (r.take n) then (guessV (r.take n), n) else nextFrom r k (n + 1)) else (0, 0)
def nextR (r : List UInt8) : Int × Nat := nextFrom r 4 1

theorem scal_nonneg {r : Int} (h : scal r = true) : 0 ≤ r ∧ r ≤ 1114111 ∧ (r < 55296 ∨ 57343 < r) := by
  unfold scal at h
  simpa [and_assoc] using h
theorem scal_mk {r : Int} (h : 0 ≤ r ∧ r ≤ 1114111 ∧ (r < 55296 ∨ 57343 < r)) : scal r = true := by
  unfold scal
  simpa [and_assoc] using h
theorem bytesOf1 {r : Int} (h : r < 128) : bytesOf r = [r % 256] := by unfold bytesOf; rw [if_pos h]
theorem bytesOf2 {r : Int} (h : 128 ≤ r) (h' : r < 2048) : bytesOf r = [(192 + r / 64) % 256, (128 + r % 64) % 256] := by unfold bytesOf; rw [if_neg (by omega), if_pos h']
theorem bytesOf3 {r : Int} (h : 2048 ≤ r) (h' : r < 65536) : bytesOf r = [(224 + r / 4096) % 256, (128 + r / 64 % 64) % 256, (128 + r % 64) % 256] := by
  unfold bytesOf; rw [if_neg (by omega), if_neg (by omega), if_pos h']
theorem bytesOf4 {r : Int} (h : 65536 ≤ r) : bytesOf r = [(240 + r / 262144) % 256, (128 + r / 4096 % 64) % 256, (128 + r / 64 % 64) % 256, (128 + r % 64) % 256] := by
  unfold bytesOf; rw [if_neg (by omega), if_neg (by omega), if_neg (by omega)]
theorem bytesOf_len (r : Int) : (bytesOf r).length = if r < 128 then 1 else if r < 2048 then 2 else if r < 65536 then 3 else 4 := by
  unfold bytesOf
  split
  · rfl
  · split
    · rfl
    · split <;> rfl

theorem guess1 (c : UInt8) : guessV [c] = if c.toNat < 128 then (c.toNat : Int) else -1 := by
  have hc := c.toNat_lt
  obtain ⟨r, hr⟩ : ∃ r : Int, (c.toNat : Int) - 0 = r := ⟨_, rfl⟩
  have e : guessV [c] = if scal r = true ∧ bytesOf r = [(c.toNat : Int)] then r else -1 := by rw [← hr]; rfl
  rw [e]
  by_cases h : c.toNat < 128
  · rw [if_pos h, if_pos]
    · omega
    · refine ⟨scal_mk (by omega), ?_⟩
      rw [bytesOf1 (by omega), show r % 256 = (c.toNat : Int) by omega]
  · rw [if_neg h, if_neg]
    rintro ⟨h1, h2⟩
    have hl := congrArg List.length h2
    rw [bytesOf_len] at hl
    split at hl
    · omega
    · split at hl
      · simp at hl
      · split at hl <;> simp at hl

theorem guess2 (c d : UInt8) : guessV [c, d] = if 194 ≤ c.toNat ∧ c.toNat < 224 ∧ d.toNat / 64 = 2 then (c.toNat : Int) % 32 * 64 + (d.toNat : Int) % 64 else -1 := by
  have hc := c.toNat_lt
  have hd := d.toNat_lt
  obtain ⟨r, hr⟩ : ∃ r : Int, ((c.toNat : Int) - 192) * 64 + (d.toNat : Int) - 128 = r := ⟨_, rfl⟩
  have e : guessV [c, d] = if scal r = true ∧ bytesOf r = [(c.toNat : Int), (d.toNat : Int)] then r else -1 := by rw [← hr]; rfl
  rw [e]
  by_cases h : 194 ≤ c.toNat ∧ c.toNat < 224 ∧ d.toNat / 64 = 2
  · rw [if_pos h, if_pos]
    · omega
    · refine ⟨scal_mk (by omega), ?_⟩
      rw [bytesOf2 (by omega) (by omega), show (192 + r / 64) % 256 = (c.toNat : Int) by omega, show (128 + r % 64) % 256 = (d.toNat : Int) by omega]
  · rw [if_neg h, if_neg]
    rintro ⟨h1, h2⟩
    apply h
    have hs := scal_nonneg h1
    have hl := congrArg List.length h2
    rw [bytesOf_len] at hl
    by_cases a : r < 128
    · rw [if_pos a] at hl; simp at hl
    · rw [if_neg a] at hl
      by_cases b : r < 2048
      · rw [bytesOf2 (by omega) b] at h2
        simp only [List.cons.injEq, and_true] at h2
        omega
      · rw [if_neg b] at hl
        split at hl <;> simp at hl

theorem guess3 (c d e : UInt8) : guessV [c, d, e] = if (224 ≤ c.toNat ∧ c.toNat < 240 ∧ d.toNat / 64 = 2 ∧ e.toNat / 64 = 2) ∧
    2048 ≤ ((c.toNat : Int) % 16 * 64 + (d.toNat : Int) % 64) * 64 + (e.toNat : Int) % 64 ∧
    (((c.toNat : Int) % 16 * 64 + (d.toNat : Int) % 64) * 64 + (e.toNat : Int) % 64 < 55296 ∨ 57343 < ((c.toNat : Int) % 16 * 64 + (d.toNat : Int) % 64) * 64 + (e.toNat : Int) % 64)
    then ((c.toNat : Int) % 16 * 64 + (d.toNat : Int) % 64) * 64 + (e.toNat : Int) % 64 else -1 := by
  have hc := c.toNat_lt
  have hd := d.toNat_lt
  have he := e.toNat_lt
  obtain ⟨r, hr⟩ : ∃ r : Int, (((c.toNat : Int) - 224) * 64 + (d.toNat : Int) - 128) * 64 + (e.toNat : Int) - 128 = r := ⟨_, rfl⟩
  have eq : guessV [c, d, e] = if scal r = true ∧ bytesOf r = [(c.toNat : Int), (d.toNat : Int), (e.toNat : Int)] then r else -1 := by rw [← hr]; rfl
  rw [eq]
  split
  · next h1 =>
    obtain ⟨h1, h2⟩ := h1
    have hs := scal_nonneg h1
    have hl := congrArg List.length h2
    rw [bytesOf_len] at hl
    by_cases a : r < 2048
    · split at hl <;> simp at hl
    · rw [if_neg (by omega), if_neg a] at hl
      by_cases b : r < 65536
      · rw [bytesOf3 (by omega) b] at h2
        simp only [List.cons.injEq, and_true] at h2
        obtain ⟨e1, e2, e3⟩ := h2
        have f1 : 224 ≤ c.toNat ∧ c.toNat < 240 := by omega
        have f2 : d.toNat / 64 = 2 := by omega
        have f3 : e.toNat / 64 = 2 := by omega
        have f4 : ((c.toNat : Int) % 16 * 64 + (d.toNat : Int) % 64) * 64 + (e.toNat : Int) % 64 = r := by omega
        rw [f4, if_pos ⟨⟨f1.1, f1.2, f2, f3⟩, by omega, hs.2.2⟩]
      · rw [if_neg b] at hl; simp at hl
  · next h1 =>
    rw [if_neg]
    rintro ⟨⟨g1, g2, g3, g4⟩, g5, g6⟩
    have f4 : ((c.toNat : Int) % 16 * 64 + (d.toNat : Int) % 64) * 64 + (e.toNat : Int) % 64 = r := by omega
    rw [f4] at g5 g6
    have f5 : r < 65536 := by omega
    apply h1
    refine ⟨scal_mk ⟨by omega, by omega, g6⟩, ?_⟩
    rw [bytesOf3 g5 f5, show (224 + r / 4096) % 256 = (c.toNat : Int) by omega, show (128 + r / 64 % 64) % 256 = (d.toNat : Int) by omega, show (128 + r % 64) % 256 = (e.toNat : Int) by omega]

theorem guess4 (c d e f : UInt8) : guessV [c, d, e, f] = if (240 ≤ c.toNat ∧ c.toNat < 248 ∧ d.toNat / 64 = 2 ∧ e.toNat / 64 = 2 ∧ f.toNat / 64 = 2) ∧
    65536 ≤ (((c.toNat : Int) % 8 * 64 + (d.toNat : Int) % 64) * 64 + (e.toNat : Int) % 64) * 64 + (f.toNat : Int) % 64 ∧
    (((c.toNat : Int) % 8 * 64 + (d.toNat : Int) % 64) * 64 + (e.toNat : Int) % 64) * 64 + (f.toNat : Int) % 64 ≤ 1114111
    then (((c.toNat : Int) % 8 * 64 + (d.toNat : Int) % 64) * 64 + (e.toNat : Int) % 64) * 64 + (f.toNat : Int) % 64 else -1 := by
  have hc := c.toNat_lt
  have hd := d.toNat_lt
  have he := e.toNat_lt
  have hf := f.toNat_lt
  obtain ⟨r, hr⟩ : ∃ r : Int, ((((c.toNat : Int) - 240) * 64 + (d.toNat : Int) - 128) * 64 + (e.toNat : Int) - 128) * 64 + (f.toNat : Int) - 128 = r := ⟨_, rfl⟩
  have eq : guessV [c, d, e, f] = if scal r = true ∧ bytesOf r = [(c.toNat : Int), (d.toNat : Int), (e.toNat : Int), (f.toNat : Int)] then r else -1 := by rw [← hr]; rfl
  rw [eq]
  split
  · next h1 =>
    obtain ⟨h1, h2⟩ := h1
    have hs := scal_nonneg h1
    have hl := congrArg List.length h2
    rw [bytesOf_len] at hl
    by_cases a : r < 65536
    · split at hl
      · simp at hl
      · split at hl <;> simp at hl
    · rw [bytesOf4 (by omega)] at h2
      simp only [List.cons.injEq, and_true] at h2
      obtain ⟨e1, e2, e3, e4⟩ := h2
      have f1 : 240 ≤ c.toNat ∧ c.toNat < 248 := by omega
      have f2 : d.toNat / 64 = 2 := by omega
      have f3 : e.toNat / 64 = 2 := by omega
      have f4 : f.toNat / 64 = 2 := by omega
      have f5 : (((c.toNat : Int) % 8 * 64 + (d.toNat : Int) % 64) * 64 + (e.toNat : Int) % 64) * 64 + (f.toNat : Int) % 64 = r := by omega
      rw [f5, if_pos ⟨⟨f1.1, f1.2, f2, f3, f4⟩, by omega, hs.2.1⟩]
  · next h1 =>
    rw [if_neg]
    rintro ⟨⟨g1, g2, g3, g4, g5⟩, g6, g7⟩
    have f5 : (((c.toNat : Int) % 8 * 64 + (d.toNat : Int) % 64) * 64 + (e.toNat : Int) % 64) * 64 + (f.toNat : Int) % 64 = r := by omega
    rw [f5] at g6 g7
    apply h1
    refine ⟨scal_mk ⟨by omega, g7, .inr (by omega)⟩, ?_⟩
    rw [bytesOf4 g6, show (240 + r / 262144) % 256 = (c.toNat : Int) by omega, show (128 + r / 4096 % 64) % 256 = (d.toNat : Int) by omega, show (128 + r / 64 % 64) % 256 = (e.toNat : Int) by omega, show (128 + r % 64) % 256 = (f.toNat : Int) by omega]

theorem lead_1 {c : Nat} (h : c < 128) : leadN c = 1 ∧ leadV c = c := by unfold leadN leadV; rw [if_pos h, if_pos h]; exact ⟨rfl, rfl⟩
theorem lead_0 {c : Nat} (h : 128 ≤ c ∧ c < 192 ∨ 248 ≤ c) : leadN c = 0 := by
  unfold leadN
  rcases h with h | h
  · rw [if_neg (by omega), if_pos (by omega)]
  · rw [if_neg (by omega), if_neg (by omega), if_neg (by omega), if_neg (by omega), if_neg (by omega)]
theorem lead_2 {c : Nat} (h : 192 ≤ c ∧ c < 224) : leadN c = 2 ∧ leadV c = (c : Int) % 32 := by
  unfold leadN leadV
  rw [if_neg (by omega), if_neg (by omega), if_pos (by omega), if_neg (by omega), if_neg (by omega), if_pos (by omega)]
  exact ⟨rfl, rfl⟩
theorem lead_3 {c : Nat} (h : 224 ≤ c ∧ c < 240) : leadN c = 3 ∧ leadV c = (c : Int) % 16 := by
  unfold leadN leadV
  rw [if_neg (by omega), if_neg (by omega), if_neg (by omega), if_pos (by omega), if_neg (by omega), if_neg (by omega), if_neg (by omega), if_pos (by omega)]
  exact ⟨rfl, rfl⟩
theorem lead_4 {c : Nat} (h : 240 ≤ c ∧ c < 248) : leadN c = 4 ∧ leadV c = (c : Int) % 8 := by
  unfold leadN leadV
  rw [if_neg (by omega), if_neg (by omega), if_neg (by omega), if_neg (by omega), if_pos (by omega), if_neg (by omega), if_neg (by omega), if_neg (by omega), if_neg (by omega), if_pos (by omega)]
  exact ⟨rfl, rfl⟩
theorem nextP_none {c : UInt8} {t : List UInt8} (h : leadN c.toNat = 0 ∨ t.length + 1 < leadN c.toNat) : nextP (c :: t) = (0, 0) := by rw [nextP, if_pos h]
theorem nextP_1 {c : UInt8} {t : List UInt8} (h : c.toNat < 128) : nextP (c :: t) = ((c.toNat : Int), 1) := by
  obtain ⟨h1, h2⟩ := lead_1 h
  rw [nextP, if_neg (by omega), h1, h2, tailV]
  simp only [finN]
  rw [if_neg]
  rintro (h3 | h3)
  · unfold leastOf at h3; simp at h3; omega
  · rw [scal_mk (by omega)] at h3; cases h3
theorem tailV_1 {a : Int} {d : UInt8} {t : List UInt8} : tailV a (d :: t) 1 = if d.toNat / 64 = 2 then some (a * 64 + (d.toNat : Int) % 64) else none := by
  rw [tailV]
  split
  · rw [tailV]
  · rfl
theorem tailV_s {a : Int} {d : UInt8} {t : List UInt8} (n : Nat) : tailV a (d :: t) (n + 1) = if d.toNat / 64 = 2 then tailV (a * 64 + (d.toNat : Int) % 64) t n else none := rfl
theorem nextP_out {c : UInt8} {t : List UInt8} {n : Nat} {b : Int} (h1 : leadN c.toNat = n) (h2 : leadV c.toNat = b) (hn : n ≠ 0) (hl : n ≤ t.length + 1) :
    nextP (c :: t) = finN n (tailV b t (n - 1)) := by
  subst h1; subst h2
  rw [nextP, if_neg (by omega)]
theorem okIf_yes {v : Int} {n : Nat} (h1 : leastOf n ≤ v) (h2 : 0 ≤ v ∧ v ≤ 1114111 ∧ (v < 55296 ∨ 57343 < v)) : (if v < leastOf n ∨ scal v = false then ((0 : Int), 0) else (v, n)) = (v, n) := by
  rw [if_neg]
  rintro (h3 | h3)
  · omega
  · rw [scal_mk h2] at h3; cases h3
theorem okIf_no {v : Int} {n : Nat} (h : ¬ (leastOf n ≤ v ∧ 0 ≤ v ∧ v ≤ 1114111 ∧ (v < 55296 ∨ 57343 < v))) : (if v < leastOf n ∨ scal v = false then ((0 : Int), 0) else (v, n)) = (0, 0) := by
  rw [if_pos]
  by_cases h3 : v < leastOf n
  · exact Or.inl h3
  · refine Or.inr ?_
    cases hsc : scal v with
    | false => rfl
    | true => exact absurd ⟨by omega, scal_nonneg hsc⟩ h
theorem nextP_2 {c d : UInt8} {t : List UInt8} (h : 192 ≤ c.toNat ∧ c.toNat < 224) : nextP (c :: d :: t) = if 0 ≤ guessV [c, d] then (guessV [c, d], 2) else (0, 0) := by
  obtain ⟨h1, h2⟩ := lead_2 h
  have hd := d.toNat_lt
  have g := guess2 c d
  rw [nextP_out h1 h2 (by omega) (by simp), show 2 - 1 = 1 from rfl, tailV_1]
  by_cases hd2 : d.toNat / 64 = 2
  · rw [if_pos hd2]
    simp only [finN]
    by_cases hc : 194 ≤ c.toNat
    · rw [if_pos ⟨hc, h.2, hd2⟩] at g
      rw [g, okIf_yes (by show 128 ≤ _; omega) (by omega), if_pos (by omega)]
    · rw [if_neg (fun x => hc x.1)] at g
      rw [g, okIf_no (by show ¬ (128 ≤ _ ∧ _); omega), if_neg (by omega)]
  · rw [if_neg (fun x => hd2 x.2.2)] at g
    rw [g, if_neg hd2, if_neg (by omega), finN]
theorem nextP_3 {c d e : UInt8} {t : List UInt8} (h : 224 ≤ c.toNat ∧ c.toNat < 240) : nextP (c :: d :: e :: t) = if 0 ≤ guessV [c, d, e] then (guessV [c, d, e], 3) else (0, 0) := by
  obtain ⟨h1, h2⟩ := lead_3 h
  have hd := d.toNat_lt
  have he := e.toNat_lt
  have g := guess3 c d e
  rw [nextP_out h1 h2 (by omega) (by simp), show 3 - 1 = 1 + 1 from rfl, tailV_s]
  by_cases hd2 : d.toNat / 64 = 2
  · rw [if_pos hd2, tailV_1]
    by_cases he2 : e.toNat / 64 = 2
    · rw [if_pos he2]
      obtain ⟨v, hv⟩ : ∃ v, ((c.toNat : Int) % 16 * 64 + (d.toNat : Int) % 64) * 64 + (e.toNat : Int) % 64 = v := ⟨_, rfl⟩
      have hv2 : 0 ≤ v ∧ v < 65536 := by omega
      rw [hv] at g ⊢
      simp only [finN]
      by_cases hq : 2048 ≤ v ∧ (v < 55296 ∨ 57343 < v)
      · rw [if_pos ⟨⟨h.1, h.2, hd2, he2⟩, hq⟩] at g
        rw [g, okIf_yes (by show 2048 ≤ _; omega) (by omega), if_pos (by omega)]
      · rw [if_neg (fun x => hq x.2)] at g
        rw [g, okIf_no (by show ¬ (2048 ≤ _ ∧ _); omega), if_neg (by omega)]
    · rw [if_neg (fun x => he2 x.1.2.2.2)] at g
      rw [g, if_neg he2, if_neg (by omega), finN]
  · rw [if_neg (fun x => hd2 x.1.2.2.1)] at g
    rw [g, if_neg hd2, if_neg (by omega), finN]
theorem nextP_4 {c d e f : UInt8} {t : List UInt8} (h : 240 ≤ c.toNat ∧ c.toNat < 248) : nextP (c :: d :: e :: f :: t) = if 0 ≤ guessV [c, d, e, f] then (guessV [c, d, e, f], 4) else (0, 0) := by
  obtain ⟨h1, h2⟩ := lead_4 h
  have hd := d.toNat_lt
  have he := e.toNat_lt
  have hf := f.toNat_lt
  have g := guess4 c d e f
  rw [nextP_out h1 h2 (by omega) (by simp), show 4 - 1 = 1 + 1 + 1 from rfl, tailV_s]
  by_cases hd2 : d.toNat / 64 = 2
  · rw [if_pos hd2, tailV_s]
    by_cases he2 : e.toNat / 64 = 2
    · rw [if_pos he2, tailV_1]
      by_cases hf2 : f.toNat / 64 = 2
      · rw [if_pos hf2]
        obtain ⟨v, hv⟩ : ∃ v, (((c.toNat : Int) % 8 * 64 + (d.toNat : Int) % 64) * 64 + (e.toNat : Int) % 64) * 64 + (f.toNat : Int) % 64 = v := ⟨_, rfl⟩
        have hv2 : 0 ≤ v ∧ v < 2097152 := by omega
        rw [hv] at g ⊢
        simp only [finN]
        by_cases hq : 65536 ≤ v ∧ v ≤ 1114111
        · rw [if_pos ⟨⟨h.1, h.2, hd2, he2, hf2⟩, hq⟩] at g
          rw [g, okIf_yes (by show 65536 ≤ _; omega) (by omega), if_pos (by omega)]
        · rw [if_neg (fun x => hq x.2)] at g
          rw [g, okIf_no (by show ¬ (65536 ≤ _ ∧ _); omega), if_neg (by omega)]
      · rw [if_neg (fun x => hf2 x.1.2.2.2.2)] at g
        rw [g, if_neg hf2, if_neg (by omega), finN]
    · rw [if_neg (fun x => he2 x.1.2.2.2.1)] at g
      rw [g, if_neg he2, if_neg (by omega), finN]
  · rw [if_neg (fun x => hd2 x.1.2.2.1)] at g
    rw [g, if_neg hd2, if_neg (by omega), finN]

theorem guess2_out {c d : UInt8} (h : ¬ (192 ≤ c.toNat ∧ c.toNat < 224)) : guessV [c, d] = -1 := by rw [guess2, if_neg (by omega)]
theorem guess3_out {c d e : UInt8} (h : ¬ (224 ≤ c.toNat ∧ c.toNat < 240)) : guessV [c, d, e] = -1 := by rw [guess3, if_neg (fun x => h ⟨x.1.1, x.1.2.1⟩)]
theorem guess4_out {c d e f : UInt8} (h : ¬ (240 ≤ c.toNat ∧ c.toNat < 248)) : guessV [c, d, e, f] = -1 := by rw [guess4, if_neg (fun x => h ⟨x.1.1, x.1.2.1⟩)]

theorem next4 (c d e f : UInt8) (t : List UInt8) : nextFrom (c :: d :: e :: f :: t) 1 4 = if 0 ≤ guessV [c, d, e, f] then (guessV [c, d, e, f], 4) else (0, 0) := by
  rw [nextFrom, if_pos (by simp)]
  rfl
/-- THE TWO READINGS ARE ONE -/
theorem next_eq (r : List UInt8) : nextR r = nextP r := by
  match r with
  | [] => rfl
  | c :: t =>
    have hc := c.toNat_lt
    have e1 : nextR (c :: t) = if 0 ≤ guessV [c] then (guessV [c], 1) else nextFrom (c :: t) 3 2 := by simp [nextR, nextFrom]
    rw [e1, guess1]
    by_cases h1 : c.toNat < 128
    · rw [if_pos h1, if_pos (by omega), nextP_1 h1]
    rw [if_neg h1, if_neg (by omega)]
    match t with
    | [] =>
      have e2 : nextFrom [c] 3 2 = (0, 0) := by simp [nextFrom]
      rw [e2, nextP_none]
      by_cases a : 128 ≤ c.toNat ∧ c.toNat < 192 ∨ 248 ≤ c.toNat
      · exact .inl (lead_0 a)
      · refine .inr ?_
        by_cases b : c.toNat < 224
        · rw [(lead_2 ⟨by omega, b⟩).1]; simp
        · by_cases b : c.toNat < 240
          · rw [(lead_3 ⟨by omega, b⟩).1]; simp
          · rw [(lead_4 ⟨by omega, by omega⟩).1]; simp
    | d :: t =>
      have e2 : nextFrom (c :: d :: t) 3 2 = if 0 ≤ guessV [c, d] then (guessV [c, d], 2) else nextFrom (c :: d :: t) 2 3 := by simp [nextFrom]
      rw [e2]
      by_cases h2 : 192 ≤ c.toNat ∧ c.toNat < 224
      · rw [nextP_2 h2]
        split
        · rfl
        · match t with
          | [] => simp [nextFrom]
          | e :: t =>
            have e3 : nextFrom (c :: d :: e :: t) 2 3 = if 0 ≤ guessV [c, d, e] then (guessV [c, d, e], 3) else nextFrom (c :: d :: e :: t) 1 4 := by simp [nextFrom]
            rw [e3, guess3_out (by omega), if_neg (by omega)]
            match t with
            | [] => simp [nextFrom]
            | f :: t =>
              have e4 := next4 c d e f t
              rw [e4, guess4_out (by omega), if_neg (by omega)]
      · rw [guess2_out (by omega), if_neg (by omega)]
        match t with
        | [] =>
          have e3 : nextFrom [c, d] 2 3 = (0, 0) := by simp [nextFrom]
          rw [e3, nextP_none]
          by_cases a : 128 ≤ c.toNat ∧ c.toNat < 192 ∨ 248 ≤ c.toNat
          · exact .inl (lead_0 a)
          · refine .inr ?_
            by_cases b : c.toNat < 240
            · rw [(lead_3 ⟨by omega, b⟩).1]; simp
            · rw [(lead_4 ⟨by omega, by omega⟩).1]; simp
        | e :: t =>
          have e3 : nextFrom (c :: d :: e :: t) 2 3 = if 0 ≤ guessV [c, d, e] then (guessV [c, d, e], 3) else nextFrom (c :: d :: e :: t) 1 4 := by simp [nextFrom]
          rw [e3]
          by_cases h3 : 224 ≤ c.toNat ∧ c.toNat < 240
          · rw [nextP_3 h3]
            split
            · rfl
            · match t with
              | [] => simp [nextFrom]
              | f :: t =>
                have e4 := next4 c d e f t
                rw [e4, guess4_out (by omega), if_neg (by omega)]
          · rw [guess3_out (by omega), if_neg (by omega)]
            match t with
            | [] =>
              have e4 : nextFrom [c, d, e] 1 4 = (0, 0) := by simp [nextFrom]
              rw [e4, nextP_none]
              by_cases a : 128 ≤ c.toNat ∧ c.toNat < 192 ∨ 248 ≤ c.toNat
              · exact .inl (lead_0 a)
              · refine .inr ?_
                rw [(lead_4 ⟨by omega, by omega⟩).1]; simp
            | f :: t =>
              have e4 := next4 c d e f t
              rw [e4]
              by_cases h4 : 240 ≤ c.toNat ∧ c.toNat < 248
              · rw [nextP_4 h4]
              · rw [guess4_out (by omega), if_neg (by omega), nextP_none (.inl (lead_0 (by omega)))]
/-- the scalar at a place of a text -/
def nextAt (l : List UInt8) (at_ : Int) : Int × Nat := if at_ < 0 ∨ (l.length : Int) ≤ at_ then (0, 0) else nextP (l.drop at_.toNat)
theorem nextAt_at {l : List UInt8} {n : Nat} (h : n < l.length) : nextAt l n = nextP (l[n] :: l.drop (n + 1)) := by
  unfold nextAt
  rw [if_neg (by omega), Int.toNat_natCast, List.drop_eq_getElem_cons h]
theorem nextAt_out {l : List UInt8} {i : Int} (h : i < 0 ∨ (l.length : Int) ≤ i) : nextAt l i = (0, 0) := by unfold nextAt; rw [if_pos h]
end Go.Proofs.YtfjcbodkjjmagaaDoor
