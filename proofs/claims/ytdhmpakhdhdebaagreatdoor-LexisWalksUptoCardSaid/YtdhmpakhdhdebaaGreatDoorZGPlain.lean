/-
  Texts cut at their hyphens and put together again: the plain words. No program in sight. By an AI agent.
  The tag of some parts, in plain words. No program in sight. By an AI agent.
  Letters made small: the plain words. No program in sight. By an AI agent.
  The parts of a language tag, read in plain words. No program in sight. By an AI agent.
  Which scalars may stand where: the plain words. No program in sight. By an AI agent.
  What the two ways of matching a range answer, in plain words. By an AI agent.
  What the library's Split gives at a hyphen is the text's parts. No program in sight. By an AI agent.
  The scalar at a text's front, as the program reads it and as the reference does: one answer. No program in sight. By an AI agent.
  How many bytes has the longest label at a place: the plain words, for the program and the reference. No program in sight. By an AI agent.
  The pieces of a local name: the plain words. No program in sight. By an AI agent.
  What a local name says, in plain words. No program in sight. By an AI agent.
  What is a label, what a prefix's name: the program's way (the longest text, held against the whole) and the reference's (all scalars, one by one): one answer. No program in sight. By an AI agent.
-/
import Derived.Test.YtdhmpakhdhdebaaGreatDoorZKit
import Derived.Lib.Join
import Derived.Lib.SplitLaws
namespace Go.Proofs.YtdhmpakhdhdebaaGreatDoor
open Go.RowKit
set_option maxRecDepth 100000
def strV (l : List UInt8) : Value := .string (B l)
def partsOf : List UInt8 -> List (List UInt8)
 | [] => [[]]
 | c :: r => if c = 45 then [] :: partsOf r else match partsOf r with
  | h :: t => (c :: h) :: t
  | [] => [[c]]
def joinD : List (List UInt8) -> List UInt8
 | [] => []
 | [p] => p
 | p :: q :: r => p ++ 45 :: joinD (q :: r)
theorem partsOf_ne (l : List UInt8) : partsOf l ≠ [] := by
 cases l with
 | nil => simp [partsOf]
 | cons c r =>
  unfold partsOf
  split
  ·simp
  ·split <;> simp
theorem partsOf_plain : ∀ (l : List UInt8), (∀ c ∈ l, c ≠ 45) -> partsOf l = [l]
 | [], _ => rfl
 | c :: r, h => by
  have hr := partsOf_plain r (fun x hx => h x (List.mem_cons_of_mem _ hx))
  unfold partsOf
  rw [if_neg (h c (List.mem_cons_self ..)), hr]
theorem partsOf_cut : ∀ (a b : List UInt8), (∀ c ∈ a, c ≠ 45) -> partsOf (a ++ 45 :: b) = a :: partsOf b
 | [], b, _ => by simp [partsOf]
 | c :: r, b, h => by
  have hr := partsOf_cut r b (fun x hx => h x (List.mem_cons_of_mem _ hx))
  rw [List.cons_append, partsOf, if_neg (h c (List.mem_cons_self ..)), hr]
theorem partsOf_length_le : ∀ (l : List UInt8), (partsOf l).length <= l.length + 1
 | [] => by simp [partsOf]
 | c :: r => by
  have h := partsOf_length_le r
  unfold partsOf
  split
  ·simp; omega
  ·split
   ·next p t e => rw [e] at h; simp at h ⊢; omega
   ·simp
theorem joinD_snoc (l : List (List UInt8)) (p : List UInt8) (h : l ≠ []) : joinD (l ++ [p]) = joinD l ++ 45 :: p := by
 induction l with
 | nil => exact absurd rfl h
 | cons a r ih =>
  cases r with
  | nil => simp [joinD]
  | cons b t =>
   have := ih (by simp)
   simp only [List.cons_append, joinD] at this ⊢
   rw [this]
   simp
theorem joinD_partsOf : ∀ (l : List UInt8), joinD (partsOf l) = l
 | [] => rfl
 | c :: r => by
  have h := joinD_partsOf r
  have hn := partsOf_ne r
  unfold partsOf
  split
  ·next e =>
   subst e
   match hp : partsOf r, hn with
   | p :: t, _ => rw [hp] at h; simp [joinD, h]
  ·split
   ·next p t e =>
    rw [e] at h
    cases t with
    | nil => simp only [joinD] at h ⊢; rw [h]
    | cons q t => simp only [joinD, List.cons_append] at h ⊢; rw [h]
   ·next e => exact absurd e hn
end Go.Proofs.YtdhmpakhdhdebaaGreatDoor
namespace Go.Proofs.YtdhmpakhdhdebaaGreatDoor
structure TagL where
 lang : List UInt8
 ext : List UInt8
 script : List UInt8
 region : List UInt8
 vars : List (List UInt8)
 exts : List (List UInt8)
 priv : List UInt8
end Go.Proofs.YtdhmpakhdhdebaaGreatDoor
namespace Go.Proofs.YtdhmpakhdhdebaaGreatDoor
open Go.RowKit
set_option maxRecDepth 100000
def lowB (c : UInt8) : UInt8 := if 65 <= c.toNat /\ c.toNat <= 90 then c + 32 else c
def lowL (l : List UInt8) : List UInt8 := l.map lowB
def lowTo (k : Nat) (l : List UInt8) : List UInt8 := (l.take k).map lowB ++ l.drop k
theorem lowTo_length (k : Nat) (l : List UInt8) : (lowTo k l).length = l.length := by simp [lowTo]; omega
theorem lowTo_zero (l : List UInt8) : lowTo 0 l = l := by simp [lowTo]
theorem lowTo_all (l : List UInt8) : lowTo l.length l = lowL l := by simp [lowTo, lowL]
theorem lowTo_at (k : Nat) (l : List UInt8) (h : k < l.length) : (lowTo k l)[k]'(by rw [lowTo_length]; exact h) = l[k] := by
 unfold lowTo
 rw [List.getElem_append_right (by simp; omega)]
 simp [Nat.min_eq_left (Nat.le_of_lt h)]
theorem lowTo_set (k : Nat) (l : List UInt8) (h : k < l.length) : (lowTo k l).set k (lowB l[k]) = lowTo (k + 1) l := by
 unfold lowTo
 rw [List.set_append_right _ _ (by simp; omega), List.length_map, List.length_take, Nat.min_eq_left (Nat.le_of_lt h), Nat.sub_self, List.drop_eq_getElem_cons h, List.set_cons_zero,
  List.take_succ_eq_append_getElem h, List.map_append, List.append_assoc]
 simp
theorem lowTo_keep (k : Nat) (l : List UInt8) (h : k < l.length) (hn : lowB l[k] = l[k]) : lowTo (k + 1) l = lowTo k l := by
 rw [<- lowTo_set k l h, hn]
 have := lowTo_at k l h
 rw [<- this, List.set_getElem_self]
theorem lowB_mid (c : UInt8) (h1 : 65 <= (c.toNat : Int)) (h2 : (c.toNat : Int) <= 90) : ((lowB c).toNat : Int) = (c.toNat : Int) + 32 := by
 unfold lowB
 rw [if_pos ⟨by omega, by omega⟩, UInt8.toNat_add]
 simp
 omega
theorem lowB_out (c : UInt8) (h : (c.toNat : Int) < 65 \/ 90 < (c.toNat : Int)) : lowB c = c := by
 unfold lowB
 rw [if_neg (by omega)]
theorem low_store {wr : World} {g k : Nat} {l : List UInt8} {c : UInt8} (hr : RowAt wr g ((lowTo k l).map U8)) (hk : k < l.length) (HS : (lowTo k l).set k (lowB c) = lowTo (k + 1) l)
  (h1 : 65 <= (c.toNat : Int)) (h2 : (c.toNat : Int) <= 90) : RowAt (wr.setCell ⟨g, k, none⟩ (.int .u8 ((c.toNat : Int) + 32))) g ((lowTo (k + 1) l).map U8) := by
 rw [<- HS, <- lowB_mid c h1 h2]
 exact hr.set_u8 (by rw [lowTo_length]; exact hk) _
theorem low_keep {wr : World} {g k : Nat} {l : List UInt8} {c : UInt8} (hr : RowAt wr g ((lowTo k l).map U8)) (hk : k < l.length) (hc : l[k] = c) (h : (c.toNat : Int) < 65 \/ 90 < (c.toNat : Int)) :
  RowAt wr g ((lowTo (k + 1) l).map U8) := by
 rw [lowTo_keep k l hk (by rw [hc]; exact lowB_out c h)]
 exact hr
end Go.Proofs.YtdhmpakhdhdebaaGreatDoor
namespace Go.Proofs.YtdhmpakhdhdebaaGreatDoor
open Go.RowKit
def alphaC (c : UInt8) : Bool := (decide (97 <= c.toNat) && decide (c.toNat <= 122)) || (decide (65 <= c.toNat) && decide (c.toNat <= 90))
def digC (c : UInt8) : Bool := decide (48 <= c.toNat) && decide (c.toNat <= 57)
def madeB (p : List UInt8) (lo hi : Nat) (pure : Bool) : Bool := p.all (fun c => alphaC c || (!pure && digC c)) && (decide (lo <= p.length) && decide (p.length <= hi))
def privB (p : List UInt8) : Bool := p == [120] || p == [88]
def variantB (p : List UInt8) : Bool := madeB p 5 8 false || (madeB p 4 4 false && digC (p.headD 0))
def regionB (p : List UInt8) : Bool := madeB p 2 2 true || (p.length == 3 && p.all digC)
def ext3 : Nat -> List (List UInt8) -> List (List UInt8) × List (List UInt8)
 | 0, ps => ([], ps)
 | _ + 1, [] => ([], [])
 | n + 1, p :: r => if madeB p 3 3 true = true then (p :: (ext3 n r).1, (ext3 n r).2) else ([], p :: r)
def langF : List (List UInt8) -> Option (List UInt8 × List UInt8 × List (List UInt8))
 | [] => none
 | p :: r => if madeB p 2 8 true = true then (if 3 < p.length then some (p, [], r) else some (p, joinD (ext3 3 r).1, (ext3 3 r).2)) else none
def oneF (f : List UInt8 -> Bool) : List (List UInt8) -> List UInt8 × List (List UInt8)
 | [] => ([], [])
 | p :: r => if f p = true then (p, r) else ([], p :: r)
def tagTail (lo : Nat) : List (List UInt8) -> List (List UInt8) × List (List UInt8)
 | [] => ([], [])
 | p :: r => if madeB p lo 8 false = true then (p :: (tagTail lo r).1, (tagTail lo r).2) else ([], p :: r)
theorem tagTail_len (lo : Nat) : ∀ ps, (tagTail lo ps).1.length + (tagTail lo ps).2.length = ps.length
 | [] => rfl
 | p :: r => by
  unfold tagTail
  split
  ·have := tagTail_len lo r
   simp only [List.length_cons]
   omega
  ·simp
def varsF : List (List UInt8) -> List (List UInt8) -> Option (List (List UInt8) × List (List UInt8))
 | _, [] => some ([], [])
 | seen, p :: r => if variantB p = true then (if seen.contains (lowL p) = true then none else (varsF (seen ++ [lowL p]) r).map fun x => (p :: x.1, x.2)) else some ([], p :: r)
def extsF (seen : List (List UInt8)) : List (List UInt8) -> Option (List (List UInt8) × List (List UInt8))
 | [] => some ([], [])
 | p :: r => if (madeB p 1 1 false && !privB p) = true then
   (if (tagTail 2 r).1 = [] \/ seen.contains (lowL p) = true then none else (extsF (seen ++ [lowL p]) (tagTail 2 r).2).map fun x => (joinD (p :: (tagTail 2 r).1) :: x.1, x.2))
  else some ([], p :: r)
termination_by ps => ps.length
decreasing_by have := tagTail_len 2 r; simp; omega
def restF (lang ext : List UInt8) (ps : List (List UInt8)) : Option (TagL × List (List UInt8)) :=
 let s := oneF (fun p => madeB p 4 4 true) ps
 let g := oneF regionB s.2
 match varsF [] g.2 with
 | none => none
 | some v => match extsF (v.1.map lowL) v.2 with
  | none => none
  | some e => some (⟨lang, ext, s.1, g.1, v.1, e.1, []⟩, e.2)
def noTag : TagL := ⟨[], [], [], [], [], [], []⟩
def seesPriv : List (List UInt8) -> Bool
 | [] => false
 | p :: _ => privB p
def frontF (ps : List (List UInt8)) : Option (TagL × List (List UInt8)) :=
 if seesPriv ps = true then some (noTag, ps) else match langF ps with
  | none => none
  | some (l, e, r) => restF l e r
def tagP (ps : List (List UInt8)) : Option TagL :=
 match frontF ps with
 | none => none
 | some (t, []) => some t
 | some (t, p :: r) => if privB p = true then (if (tagTail 1 r).1 = [] then none else if (tagTail 1 r).2 = [] then some { t with priv := joinD (p :: (tagTail 1 r).1) } else none) else none
def tagF (s : List UInt8) : Option TagL := tagP (partsOf s)
end Go.Proofs.YtdhmpakhdhdebaaGreatDoor
namespace Go.Proofs.YtdhmpakhdhdebaaGreatDoor
open Go.RowKit
set_option maxRecDepth 100000
def letterB (r : Int) : Bool := decide (97 <= r /\ r <= 122) || decide (65 <= r /\ r <= 90)
def digitB (r : Int) : Bool := decide (48 <= r /\ r <= 57)
def ranges : List (Int × Int) := [(192, 214), (216, 246), (248, 767), (880, 893), (895, 8191), (8204, 8205), (8304, 8591), (11264, 12271), (12289, 55295), (63744, 64975), (65008, 65533), (65536, 983039)]
def inOne (r : Int) (p : Int × Int) : Bool := decide (p.1 <= r) && decide (r <= p.2)
def baseB (r : Int) : Bool := ((65, 90) :: (97, 122) :: ranges).any (inOne r)
def startB (r : Int) : Bool := baseB r || decide (r = 95)
def labelB (r : Int) : Bool := startB r || digitB r
def followB (r : Int) : Bool := startB r || digitB r || decide (r = 45) || decide (r = 183) || decide (768 <= r /\ r <= 879) || decide (8255 <= r /\ r <= 8256)
theorem any_false {α : Type} {l : List α} {f : α -> Bool} (h : ∀ x ∈ l, f x = false) : l.any f = false := by
 rw [List.any_eq_false]
 intro x hx
 rw [h x hx]
 simp
theorem inOne_false {r : Int} {p : Int × Int} (h : r < p.1 \/ p.2 < r) : inOne r p = false := by
 unfold inOne
 rcases h with h | h
 ·rw [decide_eq_false (by omega)]; rfl
 ·rw [decide_eq_false (p := r <= p.2) (by omega), Bool.and_false]
theorem inOne_true {r : Int} {p : Int × Int} (h1 : p.1 <= r) (h2 : r <= p.2) : inOne r p = true := by
 unfold inOne
 rw [decide_eq_true h1, decide_eq_true h2]
 rfl
theorem ranges_low : ∀ p ∈ ranges, (192 : Int) <= p.1 := by decide
theorem baseB_low {r : Int} (h : r < 128) : baseB r = letterB r := by
 unfold baseB letterB
 rw [List.any_cons, List.any_cons, any_false (l := ranges) (fun p hp => inOne_false (.inl (by have := ranges_low p hp; omega)))]
 unfold inOne
 rw [Bool.or_false, Bool.or_comm, Bool.decide_and, Bool.decide_and]
theorem baseB_high {r : Int} (h : 128 <= r) : baseB r = ranges.any (inOne r) := by
 unfold baseB
 rw [List.any_cons, List.any_cons, inOne_false (.inr (by show (90 : Int) < r; omega)), inOne_false (.inr (by show (122 : Int) < r; omega))]
 rfl
end Go.Proofs.YtdhmpakhdhdebaaGreatDoor
namespace Go.Proofs.YtdhmpakhdhdebaaGreatDoor
end Go.Proofs.YtdhmpakhdhdebaaGreatDoor
namespace Go.Proofs.YtdhmpakhdhdebaaGreatDoor
open Go.RowKit
set_option maxRecDepth 100000
theorem index_cut : ∀ (a b : List UInt8), (∀ c ∈ a, c ≠ 45) -> Lib.index (a ++ 45 :: b) [45] = (a.length : Int)
 | [], b, _ => by rw [List.nil_append, Lib.index]; simp [List.isPrefixOf]
 | c :: r, b, h => by
  have hr := index_cut r b (fun x hx => h x (List.mem_cons_of_mem _ hx))
  have hc : ((45 : UInt8) == c) = false := beq_eq_false_iff_ne.2 (fun e => h c (List.mem_cons_self ..) e.symm)
  rw [List.cons_append, Lib.index, hr]
  have hp : ([45] : List UInt8).isPrefixOf (c :: (r ++ 45 :: b)) = false := by simp [List.isPrefixOf, hc]
  rw [hp]
  have hn : ((r.length : Int) == -1) = false := beq_eq_false_iff_ne.2 (by omega)
  simp [hn]
theorem hyphen_or : ∀ (l : List UInt8), (∀ c ∈ l, c ≠ 45) \/ ∃ a b, l = a ++ 45 :: b /\ (∀ c ∈ a, c ≠ 45)
 | [] => .inl (fun c h => by cases h)
 | c :: r => by
  by_cases hc : c = 45
  ·exact .inr ⟨[], r, by rw [hc]; rfl, fun x h => by cases h⟩
  ·rcases hyphen_or r with h | ⟨a, b, he, h⟩
   ·exact .inl (fun x hx => by rcases List.mem_cons.1 hx with rfl | hx; exact hc; exact h x hx)
   ·exact .inr ⟨c :: a, b, by rw [he]; rfl, fun x hx => by rcases List.mem_cons.1 hx with rfl | hx; exact hc; exact h x hx⟩
theorem splitK_parts : ∀ (k : Nat) (l : List UInt8), l.count 45 = k -> Lib.splitK [45] 0 k l = partsOf l
 | 0, l, h => by
  have hn : ∀ c ∈ l, c ≠ 45 := fun c hc e => by
   subst e
   have := List.count_pos_iff.2 hc
   omega
  rw [Lib.splitK, partsOf_plain l hn]
 | k + 1, l, h => by
  rcases hyphen_or l with hn | ⟨a, b, rfl, hn⟩
  ·exfalso
   have : l.count 45 = 0 := List.count_eq_zero.2 (fun hm => hn 45 hm rfl)
   omega
  ·have ha : a.count 45 = 0 := List.count_eq_zero.2 (fun hm => hn 45 hm rfl)
   have hb : b.count 45 = k := by
    rw [List.count_append, ha, List.count_cons_self] at h
    omega
   rw [Lib.splitK, index_cut a b hn, partsOf_cut a b hn, <- splitK_parts k b hb]
   have hne : ((a.length : Int) == -1) = false := beq_eq_false_iff_ne.2 (by omega)
   rw [hne]
   simp
theorem split_parts (l : List UInt8) : (Lib.splitB ⟨#[45]⟩ 0 (Lib.countB (B l) ⟨#[45]⟩) (B l)).map Value.string = (partsOf l).map strV /\ Lib.countB (B l) ⟨#[45]⟩ + 1 = (partsOf l).length := by
 have hc : Lib.countB (B l) ⟨#[45]⟩ = l.count 45 := by
  show Lib.count (B l).data.toList [45] = _
  rw [B_toList, Lib.count_one]
 have hd := Lib.splitB_data ⟨#[45]⟩ 0 (Lib.countB (B l) ⟨#[45]⟩) (B l)
 rw [B_toList, hc] at hd
 have hk : (Lib.splitB ⟨#[45]⟩ 0 (l.count 45) (B l)).map (·.data.toList) = partsOf l := hd.trans (splitK_parts _ l rfl)
 rw [hc]
 refine ⟨?_, ?_⟩
 ·rw [<- hk, List.map_map]
  apply List.map_congr_left
  intro x _
  simp [strV, B_of]
 ·have h2 := Lib.splitB_all ⟨#[45]⟩ (by decide) 0 (l.count 45) (B l) hc
  rw [<- h2, <- hk, List.length_map]
end Go.Proofs.YtdhmpakhdhdebaaGreatDoor
namespace Go.Proofs.YtdhmpakhdhdebaaGreatDoor
open Go.RowKit
set_option maxRecDepth 100000
def scal (r : Int) : Bool := decide (0 <= r) && decide (r <= 1114111) && (decide (r < 55296) || decide (57343 < r))
def leadN (c : Nat) : Nat := if c < 128 then 1 else if c < 192 then 0 else if c < 224 then 2 else if c < 240 then 3 else if c < 248 then 4 else 0
def leadV (c : Nat) : Int := if c < 128 then c else if c < 192 then 0 else if c < 224 then (c : Int) % 32 else if c < 240 then (c : Int) % 16 else if c < 248 then (c : Int) % 8 else 0
def leastOf (n : Nat) : Int := if n = 2 then 128 else if n = 3 then 2048 else if n = 4 then 65536 else 0
def tailV : Int -> List UInt8 -> Nat -> Option Int
 | acc, _, 0 => some acc
 | _, [], _ + 1 => none
 | acc, c :: t, n + 1 => if c.toNat / 64 = 2 then tailV (acc * 64 + (c.toNat : Int) % 64) t n else none
def finN (n : Nat) : Option Int -> Int × Nat
 | none => (0, 0)
 | some v => if v < leastOf n \/ scal v = false then (0, 0) else (v, n)
def nextP : List UInt8 -> Int × Nat
 | [] => (0, 0)
 | c :: t => if leadN c.toNat = 0 \/ t.length + 1 < leadN c.toNat then (0, 0) else finN (leadN c.toNat) (tailV (leadV c.toNat) t (leadN c.toNat - 1))
def bytesOf (r : Int) : List Int :=
 if r < 128 then [r % 256] else if r < 2048 then [(192 + r / 64) % 256, (128 + r % 64) % 256]
 else if r < 65536 then [(224 + r / 4096) % 256, (128 + r / 64 % 64) % 256, (128 + r % 64) % 256]
 else [(240 + r / 262144) % 256, (128 + r / 4096 % 64) % 256, (128 + r / 64 % 64) % 256, (128 + r % 64) % 256]
def leadOf (n : Nat) : Int := if n = 2 then 192 else if n = 3 then 224 else if n = 4 then 240 else 0
def sumV (b : List UInt8) : Int := match b with
 | [] => 0
 | c :: t => t.foldl (fun r d => r * 64 + (d.toNat : Int) - 128) ((c.toNat : Int) - leadOf b.length)
def ints (b : List UInt8) : List Int := b.map fun c => (c.toNat : Int)
def guessV (b : List UInt8) : Int := if scal (sumV b) = true /\ bytesOf (sumV b) = ints b then sumV b else -1
def nextFrom (r : List UInt8) : Nat -> Nat -> Int × Nat
 | 0, _ => (0, 0)
 | k + 1, n => if n <= r.length then (if 0 <= guessV (r.take n) then (guessV (r.take n), n) else nextFrom r k (n + 1)) else (0, 0)
def nextR (r : List UInt8) : Int × Nat := nextFrom r 4 1
theorem scal_nonneg {r : Int} (h : scal r = true) : 0 <= r /\ r <= 1114111 /\ (r < 55296 \/ 57343 < r) := by
 unfold scal at h
 simpa [and_assoc] using h
theorem scal_mk {r : Int} (h : 0 <= r /\ r <= 1114111 /\ (r < 55296 \/ 57343 < r)) : scal r = true := by
 unfold scal
 simpa [and_assoc] using h
theorem bytesOf1 {r : Int} (h : r < 128) : bytesOf r = [r % 256] := by unfold bytesOf; rw [if_pos h]
theorem bytesOf2 {r : Int} (h : 128 <= r) (h' : r < 2048) : bytesOf r = [(192 + r / 64) % 256, (128 + r % 64) % 256] := by unfold bytesOf; rw [if_neg (by omega), if_pos h']
theorem bytesOf3 {r : Int} (h : 2048 <= r) (h' : r < 65536) : bytesOf r = [(224 + r / 4096) % 256, (128 + r / 64 % 64) % 256, (128 + r % 64) % 256] := by
 unfold bytesOf; rw [if_neg (by omega), if_neg (by omega), if_pos h']
theorem bytesOf4 {r : Int} (h : 65536 <= r) : bytesOf r = [(240 + r / 262144) % 256, (128 + r / 4096 % 64) % 256, (128 + r / 64 % 64) % 256, (128 + r % 64) % 256] := by
 unfold bytesOf; rw [if_neg (by omega), if_neg (by omega), if_neg (by omega)]
theorem bytesOf_len (r : Int) : (bytesOf r).length = if r < 128 then 1 else if r < 2048 then 2 else if r < 65536 then 3 else 4 := by
 unfold bytesOf
 split
 ·rfl
 ·split
  ·rfl
  ·split <;> rfl
theorem guess1 (c : UInt8) : guessV [c] = if c.toNat < 128 then (c.toNat : Int) else -1 := by
 have hc := c.toNat_lt
 obtain ⟨r, hr⟩ : ∃ r : Int, (c.toNat : Int) - 0 = r := ⟨_, rfl⟩
 have e : guessV [c] = if scal r = true /\ bytesOf r = [(c.toNat : Int)] then r else -1 := by rw [<- hr]; rfl
 rw [e]
 by_cases h : c.toNat < 128
 ·rw [if_pos h, if_pos]
  ·omega
  ·refine ⟨scal_mk (by omega), ?_⟩
   rw [bytesOf1 (by omega), show r % 256 = (c.toNat : Int) by omega]
 ·rw [if_neg h, if_neg]
  rintro ⟨h1, h2⟩
  have hl := congrArg List.length h2
  rw [bytesOf_len] at hl
  split at hl
  ·omega
  ·split at hl
   ·simp at hl
   ·split at hl <;> simp at hl
theorem guess2 (c d : UInt8) : guessV [c, d] = if 194 <= c.toNat /\ c.toNat < 224 /\ d.toNat / 64 = 2 then (c.toNat : Int) % 32 * 64 + (d.toNat : Int) % 64 else -1 := by
 have hc := c.toNat_lt
 have hd := d.toNat_lt
 obtain ⟨r, hr⟩ : ∃ r : Int, ((c.toNat : Int) - 192) * 64 + (d.toNat : Int) - 128 = r := ⟨_, rfl⟩
 have e : guessV [c, d] = if scal r = true /\ bytesOf r = [(c.toNat : Int), (d.toNat : Int)] then r else -1 := by rw [<- hr]; rfl
 rw [e]
 by_cases h : 194 <= c.toNat /\ c.toNat < 224 /\ d.toNat / 64 = 2
 ·rw [if_pos h, if_pos]
  ·omega
  ·refine ⟨scal_mk (by omega), ?_⟩
   rw [bytesOf2 (by omega) (by omega), show (192 + r / 64) % 256 = (c.toNat : Int) by omega, show (128 + r % 64) % 256 = (d.toNat : Int) by omega]
 ·rw [if_neg h, if_neg]
  rintro ⟨h1, h2⟩
  apply h
  have hs := scal_nonneg h1
  have hl := congrArg List.length h2
  rw [bytesOf_len] at hl
  by_cases a : r < 128
  ·rw [if_pos a] at hl; simp at hl
  ·rw [if_neg a] at hl
   by_cases b : r < 2048
   ·rw [bytesOf2 (by omega) b] at h2
    simp only [List.cons.injEq, and_true] at h2
    omega
   ·rw [if_neg b] at hl
    split at hl <;> simp at hl
theorem guess3 (c d e : UInt8) : guessV [c, d, e] = if (224 <= c.toNat /\ c.toNat < 240 /\ d.toNat / 64 = 2 /\ e.toNat / 64 = 2) /\
  2048 <= ((c.toNat : Int) % 16 * 64 + (d.toNat : Int) % 64) * 64 + (e.toNat : Int) % 64 /\
  (((c.toNat : Int) % 16 * 64 + (d.toNat : Int) % 64) * 64 + (e.toNat : Int) % 64 < 55296 \/ 57343 < ((c.toNat : Int) % 16 * 64 + (d.toNat : Int) % 64) * 64 + (e.toNat : Int) % 64)
  then ((c.toNat : Int) % 16 * 64 + (d.toNat : Int) % 64) * 64 + (e.toNat : Int) % 64 else -1 := by
 have hc := c.toNat_lt
 have hd := d.toNat_lt
 have he := e.toNat_lt
 obtain ⟨r, hr⟩ : ∃ r : Int, (((c.toNat : Int) - 224) * 64 + (d.toNat : Int) - 128) * 64 + (e.toNat : Int) - 128 = r := ⟨_, rfl⟩
 have eq : guessV [c, d, e] = if scal r = true /\ bytesOf r = [(c.toNat : Int), (d.toNat : Int), (e.toNat : Int)] then r else -1 := by rw [<- hr]; rfl
 rw [eq]
 split
 ·next h1 =>
  obtain ⟨h1, h2⟩ := h1
  have hs := scal_nonneg h1
  have hl := congrArg List.length h2
  rw [bytesOf_len] at hl
  by_cases a : r < 2048
  ·split at hl <;> simp at hl
  ·rw [if_neg (by omega), if_neg a] at hl
   by_cases b : r < 65536
   ·rw [bytesOf3 (by omega) b] at h2
    simp only [List.cons.injEq, and_true] at h2
    obtain ⟨e1, e2, e3⟩ := h2
    have f1 : 224 <= c.toNat /\ c.toNat < 240 := by omega
    have f2 : d.toNat / 64 = 2 := by omega
    have f3 : e.toNat / 64 = 2 := by omega
    have f4 : ((c.toNat : Int) % 16 * 64 + (d.toNat : Int) % 64) * 64 + (e.toNat : Int) % 64 = r := by omega
    rw [f4, if_pos ⟨⟨f1.1, f1.2, f2, f3⟩, by omega, hs.2.2⟩]
   ·rw [if_neg b] at hl; simp at hl
 ·next h1 =>
  rw [if_neg]
  rintro ⟨⟨g1, g2, g3, g4⟩, g5, g6⟩
  have f4 : ((c.toNat : Int) % 16 * 64 + (d.toNat : Int) % 64) * 64 + (e.toNat : Int) % 64 = r := by omega
  rw [f4] at g5 g6
  have f5 : r < 65536 := by omega
  apply h1
  refine ⟨scal_mk ⟨by omega, by omega, g6⟩, ?_⟩
  rw [bytesOf3 g5 f5, show (224 + r / 4096) % 256 = (c.toNat : Int) by omega, show (128 + r / 64 % 64) % 256 = (d.toNat : Int) by omega, show (128 + r % 64) % 256 = (e.toNat : Int) by omega]
theorem guess4 (c d e f : UInt8) : guessV [c, d, e, f] = if (240 <= c.toNat /\ c.toNat < 248 /\ d.toNat / 64 = 2 /\ e.toNat / 64 = 2 /\ f.toNat / 64 = 2) /\
  65536 <= (((c.toNat : Int) % 8 * 64 + (d.toNat : Int) % 64) * 64 + (e.toNat : Int) % 64) * 64 + (f.toNat : Int) % 64 /\
  (((c.toNat : Int) % 8 * 64 + (d.toNat : Int) % 64) * 64 + (e.toNat : Int) % 64) * 64 + (f.toNat : Int) % 64 <= 1114111
  then (((c.toNat : Int) % 8 * 64 + (d.toNat : Int) % 64) * 64 + (e.toNat : Int) % 64) * 64 + (f.toNat : Int) % 64 else -1 := by
 have hc := c.toNat_lt
 have hd := d.toNat_lt
 have he := e.toNat_lt
 have hf := f.toNat_lt
 obtain ⟨r, hr⟩ : ∃ r : Int, ((((c.toNat : Int) - 240) * 64 + (d.toNat : Int) - 128) * 64 + (e.toNat : Int) - 128) * 64 + (f.toNat : Int) - 128 = r := ⟨_, rfl⟩
 have eq : guessV [c, d, e, f] = if scal r = true /\ bytesOf r = [(c.toNat : Int), (d.toNat : Int), (e.toNat : Int), (f.toNat : Int)] then r else -1 := by rw [<- hr]; rfl
 rw [eq]
 split
 ·next h1 =>
  obtain ⟨h1, h2⟩ := h1
  have hs := scal_nonneg h1
  have hl := congrArg List.length h2
  rw [bytesOf_len] at hl
  by_cases a : r < 65536
  ·split at hl
   ·simp at hl
   ·split at hl <;> simp at hl
  ·rw [bytesOf4 (by omega)] at h2
   simp only [List.cons.injEq, and_true] at h2
   obtain ⟨e1, e2, e3, e4⟩ := h2
   have f1 : 240 <= c.toNat /\ c.toNat < 248 := by omega
   have f2 : d.toNat / 64 = 2 := by omega
   have f3 : e.toNat / 64 = 2 := by omega
   have f4 : f.toNat / 64 = 2 := by omega
   have f5 : (((c.toNat : Int) % 8 * 64 + (d.toNat : Int) % 64) * 64 + (e.toNat : Int) % 64) * 64 + (f.toNat : Int) % 64 = r := by omega
   rw [f5, if_pos ⟨⟨f1.1, f1.2, f2, f3, f4⟩, by omega, hs.2.1⟩]
 ·next h1 =>
  rw [if_neg]
  rintro ⟨⟨g1, g2, g3, g4, g5⟩, g6, g7⟩
  have f5 : (((c.toNat : Int) % 8 * 64 + (d.toNat : Int) % 64) * 64 + (e.toNat : Int) % 64) * 64 + (f.toNat : Int) % 64 = r := by omega
  rw [f5] at g6 g7
  apply h1
  refine ⟨scal_mk ⟨by omega, g7, .inr (by omega)⟩, ?_⟩
  rw [bytesOf4 g6, show (240 + r / 262144) % 256 = (c.toNat : Int) by omega, show (128 + r / 4096 % 64) % 256 = (d.toNat : Int) by omega, show (128 + r / 64 % 64) % 256 = (e.toNat : Int) by omega, show (128 + r % 64) % 256 = (f.toNat : Int) by omega]
theorem lead_1 {c : Nat} (h : c < 128) : leadN c = 1 /\ leadV c = c := by unfold leadN leadV; rw [if_pos h, if_pos h]; exact ⟨rfl, rfl⟩
theorem lead_0 {c : Nat} (h : 128 <= c /\ c < 192 \/ 248 <= c) : leadN c = 0 := by
 unfold leadN
 rcases h with h | h
 ·rw [if_neg (by omega), if_pos (by omega)]
 ·rw [if_neg (by omega), if_neg (by omega), if_neg (by omega), if_neg (by omega), if_neg (by omega)]
theorem lead_2 {c : Nat} (h : 192 <= c /\ c < 224) : leadN c = 2 /\ leadV c = (c : Int) % 32 := by
 unfold leadN leadV
 rw [if_neg (by omega), if_neg (by omega), if_pos (by omega), if_neg (by omega), if_neg (by omega), if_pos (by omega)]
 exact ⟨rfl, rfl⟩
theorem lead_3 {c : Nat} (h : 224 <= c /\ c < 240) : leadN c = 3 /\ leadV c = (c : Int) % 16 := by
 unfold leadN leadV
 rw [if_neg (by omega), if_neg (by omega), if_neg (by omega), if_pos (by omega), if_neg (by omega), if_neg (by omega), if_neg (by omega), if_pos (by omega)]
 exact ⟨rfl, rfl⟩
theorem lead_4 {c : Nat} (h : 240 <= c /\ c < 248) : leadN c = 4 /\ leadV c = (c : Int) % 8 := by
 unfold leadN leadV
 rw [if_neg (by omega), if_neg (by omega), if_neg (by omega), if_neg (by omega), if_pos (by omega), if_neg (by omega), if_neg (by omega), if_neg (by omega), if_neg (by omega), if_pos (by omega)]
 exact ⟨rfl, rfl⟩
theorem nextP_none {c : UInt8} {t : List UInt8} (h : leadN c.toNat = 0 \/ t.length + 1 < leadN c.toNat) : nextP (c :: t) = (0, 0) := by rw [nextP, if_pos h]
theorem nextP_1 {c : UInt8} {t : List UInt8} (h : c.toNat < 128) : nextP (c :: t) = ((c.toNat : Int), 1) := by
 obtain ⟨h1, h2⟩ := lead_1 h
 rw [nextP, if_neg (by omega), h1, h2, tailV]
 simp only [finN]
 rw [if_neg]
 rintro (h3 | h3)
 ·unfold leastOf at h3; simp at h3; omega
 ·rw [scal_mk (by omega)] at h3; cases h3
theorem tailV_1 {a : Int} {d : UInt8} {t : List UInt8} : tailV a (d :: t) 1 = if d.toNat / 64 = 2 then some (a * 64 + (d.toNat : Int) % 64) else none := by
 rw [tailV]
 split
 ·rw [tailV]
 ·rfl
theorem tailV_s {a : Int} {d : UInt8} {t : List UInt8} (n : Nat) : tailV a (d :: t) (n + 1) = if d.toNat / 64 = 2 then tailV (a * 64 + (d.toNat : Int) % 64) t n else none := rfl
theorem nextP_out {c : UInt8} {t : List UInt8} {n : Nat} {b : Int} (h1 : leadN c.toNat = n) (h2 : leadV c.toNat = b) (hn : n ≠ 0) (hl : n <= t.length + 1) :
  nextP (c :: t) = finN n (tailV b t (n - 1)) := by
 subst h1; subst h2
 rw [nextP, if_neg (by omega)]
theorem okIf_yes {v : Int} {n : Nat} (h1 : leastOf n <= v) (h2 : 0 <= v /\ v <= 1114111 /\ (v < 55296 \/ 57343 < v)) : (if v < leastOf n \/ scal v = false then ((0 : Int), 0) else (v, n)) = (v, n) := by
 rw [if_neg]
 rintro (h3 | h3)
 ·omega
 ·rw [scal_mk h2] at h3; cases h3
theorem okIf_no {v : Int} {n : Nat} (h : ¬ (leastOf n <= v /\ 0 <= v /\ v <= 1114111 /\ (v < 55296 \/ 57343 < v))) : (if v < leastOf n \/ scal v = false then ((0 : Int), 0) else (v, n)) = (0, 0) := by
 rw [if_pos]
 by_cases h3 : v < leastOf n
 ·exact Or.inl h3
 ·refine Or.inr ?_
  cases hsc : scal v with
  | false => rfl
  | true => exact absurd ⟨by omega, scal_nonneg hsc⟩ h
theorem nextP_2 {c d : UInt8} {t : List UInt8} (h : 192 <= c.toNat /\ c.toNat < 224) : nextP (c :: d :: t) = if 0 <= guessV [c, d] then (guessV [c, d], 2) else (0, 0) := by
 obtain ⟨h1, h2⟩ := lead_2 h
 have hd := d.toNat_lt
 have g := guess2 c d
 rw [nextP_out h1 h2 (by omega) (by simp), show 2 - 1 = 1 from rfl, tailV_1]
 by_cases hd2 : d.toNat / 64 = 2
 ·rw [if_pos hd2]
  simp only [finN]
  by_cases hc : 194 <= c.toNat
  ·rw [if_pos ⟨hc, h.2, hd2⟩] at g
   rw [g, okIf_yes (by show 128 <= _; omega) (by omega), if_pos (by omega)]
  ·rw [if_neg (fun x => hc x.1)] at g
   rw [g, okIf_no (by show ¬ (128 <= _ /\ _); omega), if_neg (by omega)]
 ·rw [if_neg (fun x => hd2 x.2.2)] at g
  rw [g, if_neg hd2, if_neg (by omega), finN]
theorem nextP_3 {c d e : UInt8} {t : List UInt8} (h : 224 <= c.toNat /\ c.toNat < 240) : nextP (c :: d :: e :: t) = if 0 <= guessV [c, d, e] then (guessV [c, d, e], 3) else (0, 0) := by
 obtain ⟨h1, h2⟩ := lead_3 h
 have hd := d.toNat_lt
 have he := e.toNat_lt
 have g := guess3 c d e
 rw [nextP_out h1 h2 (by omega) (by simp), show 3 - 1 = 1 + 1 from rfl, tailV_s]
 by_cases hd2 : d.toNat / 64 = 2
 ·rw [if_pos hd2, tailV_1]
  by_cases he2 : e.toNat / 64 = 2
  ·rw [if_pos he2]
   obtain ⟨v, hv⟩ : ∃ v, ((c.toNat : Int) % 16 * 64 + (d.toNat : Int) % 64) * 64 + (e.toNat : Int) % 64 = v := ⟨_, rfl⟩
   have hv2 : 0 <= v /\ v < 65536 := by omega
   rw [hv] at g ⊢
   simp only [finN]
   by_cases hq : 2048 <= v /\ (v < 55296 \/ 57343 < v)
   ·rw [if_pos ⟨⟨h.1, h.2, hd2, he2⟩, hq⟩] at g
    rw [g, okIf_yes (by show 2048 <= _; omega) (by omega), if_pos (by omega)]
   ·rw [if_neg (fun x => hq x.2)] at g
    rw [g, okIf_no (by show ¬ (2048 <= _ /\ _); omega), if_neg (by omega)]
  ·rw [if_neg (fun x => he2 x.1.2.2.2)] at g
   rw [g, if_neg he2, if_neg (by omega), finN]
 ·rw [if_neg (fun x => hd2 x.1.2.2.1)] at g
  rw [g, if_neg hd2, if_neg (by omega), finN]
theorem nextP_4 {c d e f : UInt8} {t : List UInt8} (h : 240 <= c.toNat /\ c.toNat < 248) : nextP (c :: d :: e :: f :: t) = if 0 <= guessV [c, d, e, f] then (guessV [c, d, e, f], 4) else (0, 0) := by
 obtain ⟨h1, h2⟩ := lead_4 h
 have hd := d.toNat_lt
 have he := e.toNat_lt
 have hf := f.toNat_lt
 have g := guess4 c d e f
 rw [nextP_out h1 h2 (by omega) (by simp), show 4 - 1 = 1 + 1 + 1 from rfl, tailV_s]
 by_cases hd2 : d.toNat / 64 = 2
 ·rw [if_pos hd2, tailV_s]
  by_cases he2 : e.toNat / 64 = 2
  ·rw [if_pos he2, tailV_1]
   by_cases hf2 : f.toNat / 64 = 2
   ·rw [if_pos hf2]
    obtain ⟨v, hv⟩ : ∃ v, (((c.toNat : Int) % 8 * 64 + (d.toNat : Int) % 64) * 64 + (e.toNat : Int) % 64) * 64 + (f.toNat : Int) % 64 = v := ⟨_, rfl⟩
    have hv2 : 0 <= v /\ v < 2097152 := by omega
    rw [hv] at g ⊢
    simp only [finN]
    by_cases hq : 65536 <= v /\ v <= 1114111
    ·rw [if_pos ⟨⟨h.1, h.2, hd2, he2, hf2⟩, hq⟩] at g
     rw [g, okIf_yes (by show 65536 <= _; omega) (by omega), if_pos (by omega)]
    ·rw [if_neg (fun x => hq x.2)] at g
     rw [g, okIf_no (by show ¬ (65536 <= _ /\ _); omega), if_neg (by omega)]
   ·rw [if_neg (fun x => hf2 x.1.2.2.2.2)] at g
    rw [g, if_neg hf2, if_neg (by omega), finN]
  ·rw [if_neg (fun x => he2 x.1.2.2.2.1)] at g
   rw [g, if_neg he2, if_neg (by omega), finN]
 ·rw [if_neg (fun x => hd2 x.1.2.2.1)] at g
  rw [g, if_neg hd2, if_neg (by omega), finN]
theorem guess2_out {c d : UInt8} (h : ¬ (192 <= c.toNat /\ c.toNat < 224)) : guessV [c, d] = -1 := by rw [guess2, if_neg (by omega)]
theorem guess3_out {c d e : UInt8} (h : ¬ (224 <= c.toNat /\ c.toNat < 240)) : guessV [c, d, e] = -1 := by rw [guess3, if_neg (fun x => h ⟨x.1.1, x.1.2.1⟩)]
theorem guess4_out {c d e f : UInt8} (h : ¬ (240 <= c.toNat /\ c.toNat < 248)) : guessV [c, d, e, f] = -1 := by rw [guess4, if_neg (fun x => h ⟨x.1.1, x.1.2.1⟩)]
theorem next4 (c d e f : UInt8) (t : List UInt8) : nextFrom (c :: d :: e :: f :: t) 1 4 = if 0 <= guessV [c, d, e, f] then (guessV [c, d, e, f], 4) else (0, 0) := by
 rw [nextFrom, if_pos (by simp)]
 rfl
theorem next_eq (r : List UInt8) : nextR r = nextP r := by
 match r with
 | [] => rfl
 | c :: t =>
  have hc := c.toNat_lt
  have e1 : nextR (c :: t) = if 0 <= guessV [c] then (guessV [c], 1) else nextFrom (c :: t) 3 2 := by simp [nextR, nextFrom]
  rw [e1, guess1]
  by_cases h1 : c.toNat < 128
  ·rw [if_pos h1, if_pos (by omega), nextP_1 h1]
  rw [if_neg h1, if_neg (by omega)]
  match t with
  | [] =>
   have e2 : nextFrom [c] 3 2 = (0, 0) := by simp [nextFrom]
   rw [e2, nextP_none]
   by_cases a : 128 <= c.toNat /\ c.toNat < 192 \/ 248 <= c.toNat
   ·exact .inl (lead_0 a)
   ·refine .inr ?_
    by_cases b : c.toNat < 224
    ·rw [(lead_2 ⟨by omega, b⟩).1]; simp
    ·by_cases b : c.toNat < 240
     ·rw [(lead_3 ⟨by omega, b⟩).1]; simp
     ·rw [(lead_4 ⟨by omega, by omega⟩).1]; simp
  | d :: t =>
   have e2 : nextFrom (c :: d :: t) 3 2 = if 0 <= guessV [c, d] then (guessV [c, d], 2) else nextFrom (c :: d :: t) 2 3 := by simp [nextFrom]
   rw [e2]
   by_cases h2 : 192 <= c.toNat /\ c.toNat < 224
   ·rw [nextP_2 h2]
    split
    ·rfl
    ·match t with
     | [] => simp [nextFrom]
     | e :: t =>
      have e3 : nextFrom (c :: d :: e :: t) 2 3 = if 0 <= guessV [c, d, e] then (guessV [c, d, e], 3) else nextFrom (c :: d :: e :: t) 1 4 := by simp [nextFrom]
      rw [e3, guess3_out (by omega), if_neg (by omega)]
      match t with
      | [] => simp [nextFrom]
      | f :: t =>
       have e4 := next4 c d e f t
       rw [e4, guess4_out (by omega), if_neg (by omega)]
   ·rw [guess2_out (by omega), if_neg (by omega)]
    match t with
    | [] =>
     have e3 : nextFrom [c, d] 2 3 = (0, 0) := by simp [nextFrom]
     rw [e3, nextP_none]
     by_cases a : 128 <= c.toNat /\ c.toNat < 192 \/ 248 <= c.toNat
     ·exact .inl (lead_0 a)
     ·refine .inr ?_
      by_cases b : c.toNat < 240
      ·rw [(lead_3 ⟨by omega, b⟩).1]; simp
      ·rw [(lead_4 ⟨by omega, by omega⟩).1]; simp
    | e :: t =>
     have e3 : nextFrom (c :: d :: e :: t) 2 3 = if 0 <= guessV [c, d, e] then (guessV [c, d, e], 3) else nextFrom (c :: d :: e :: t) 1 4 := by simp [nextFrom]
     rw [e3]
     by_cases h3 : 224 <= c.toNat /\ c.toNat < 240
     ·rw [nextP_3 h3]
      split
      ·rfl
      ·match t with
       | [] => simp [nextFrom]
       | f :: t =>
        have e4 := next4 c d e f t
        rw [e4, guess4_out (by omega), if_neg (by omega)]
     ·rw [guess3_out (by omega), if_neg (by omega)]
      match t with
      | [] =>
       have e4 : nextFrom [c, d, e] 1 4 = (0, 0) := by simp [nextFrom]
       rw [e4, nextP_none]
       by_cases a : 128 <= c.toNat /\ c.toNat < 192 \/ 248 <= c.toNat
       ·exact .inl (lead_0 a)
       ·refine .inr ?_
        rw [(lead_4 ⟨by omega, by omega⟩).1]; simp
      | f :: t =>
       have e4 := next4 c d e f t
       rw [e4]
       by_cases h4 : 240 <= c.toNat /\ c.toNat < 248
       ·rw [nextP_4 h4]
       ·rw [guess4_out (by omega), if_neg (by omega), nextP_none (.inl (lead_0 (by omega)))]
def nextAt (l : List UInt8) (at_ : Int) : Int × Nat := if at_ < 0 \/ (l.length : Int) <= at_ then (0, 0) else nextP (l.drop at_.toNat)
theorem nextAt_at {l : List UInt8} {n : Nat} (h : n < l.length) : nextAt l n = nextP (l[n] :: l.drop (n + 1)) := by
 unfold nextAt
 rw [if_neg (by omega), Int.toNat_natCast, List.drop_eq_getElem_cons h]
theorem nextAt_out {l : List UInt8} {i : Int} (h : i < 0 \/ (l.length : Int) <= i) : nextAt l i = (0, 0) := by unfold nextAt; rw [if_pos h]
end Go.Proofs.YtdhmpakhdhdebaaGreatDoor
namespace Go.Proofs.YtdhmpakhdhdebaaGreatDoor
open Go.RowKit
set_option maxRecDepth 100000
theorem nextAt_nat (l : List UInt8) (i : Nat) : nextAt l (i : Int) = nextP (l.drop i) := by
 unfold nextAt
 by_cases h : l.length <= i
 ·rw [if_pos (by omega), List.drop_of_length_le h]; rfl
 ·rw [if_neg (by omega), Int.toNat_natCast]
theorem finN_bound {n : Nat} {o : Option Int} (h : (finN n o).2 ≠ 0) : (finN n o).2 = n /\ 0 <= (finN n o).1 /\ (finN n o).1 <= 1114111 := by
 cases o with
 | none => exact absurd rfl h
 | some v =>
  by_cases hc : v < leastOf n \/ scal v = false
  ·have e : finN n (some v) = (0, 0) := by rw [finN, if_pos hc]
   rw [e] at h
   exact absurd rfl h
  ·have e : finN n (some v) = (v, n) := by rw [finN, if_neg hc]
   rw [e]
   refine ⟨rfl, ?_⟩
   have hs : scal v = true := by cases hs : scal v with
    | true => rfl
    | false => exact absurd (Or.inr hs) hc
   have := scal_nonneg hs
   omega
theorem nextP_bound {r : List UInt8} (h : (nextP r).2 ≠ 0) : (nextP r).2 <= r.length /\ 0 <= (nextP r).1 /\ (nextP r).1 <= 1114111 := by
 cases r with
 | nil => exact absurd rfl h
 | cons c t =>
  by_cases hc : leadN c.toNat = 0 \/ t.length + 1 < leadN c.toNat
  ·rw [nextP_none hc] at h
   exact absurd rfl h
  ·have e : nextP (c :: t) = finN (leadN c.toNat) (tailV (leadV c.toNat) t (leadN c.toNat - 1)) := by rw [nextP, if_neg hc]
   rw [e] at h ⊢
   have := finN_bound h
   refine ⟨?_, this.2⟩
   rw [this.1]
   simp
   omega
theorem nextAt_bound {l : List UInt8} {i v : Int} {n : Nat} (h : nextAt l i = (v, n)) (hn : n ≠ 0) : 0 <= i /\ i + n <= l.length /\ 0 <= v /\ v <= 1114111 := by
 unfold nextAt at h
 by_cases hi : i < 0 \/ (l.length : Int) <= i
 ·rw [if_pos hi] at h
  cases h
  exact absurd rfl hn
 ·rw [if_neg hi] at h
  have hb := nextP_bound (r := l.drop i.toNat) (by rw [h]; exact hn)
  rw [h] at hb
  simp at hb
  omega
def tailF (l : List UInt8) (i e : Nat) : Nat :=
 if _h : (nextAt l i).2 = 0 \/ ((nextAt l i).1 ≠ 46 /\ followB (nextAt l i).1 = false) then e
 else tailF l (i + (nextAt l i).2) (if (nextAt l i).1 = 46 then e else i + (nextAt l i).2)
termination_by l.length - i
decreasing_by
 have hn : (nextAt l i).2 ≠ 0 := fun x => _h (Or.inl x)
 have := nextAt_bound (l := l) (i := (i : Int)) (v := (nextAt l i).1) (n := (nextAt l i).2) rfl hn
 omega
theorem tailF_stop {l : List UInt8} {i e n : Nat} {v : Int} (h : nextAt l i = (v, n)) (hs : n = 0 \/ (v ≠ 46 /\ followB v = false)) : tailF l i e = e := by rw [tailF, h, dif_pos hs]
theorem tailF_go {l : List UInt8} {i e n : Nat} {v : Int} (h : nextAt l i = (v, n)) (hs : ¬ (n = 0 \/ (v ≠ 46 /\ followB v = false))) : tailF l i e = tailF l (i + n) (if v = 46 then e else i + n) := by rw [tailF, h, dif_neg hs]
def runF (first : Int -> Bool) (l : List UInt8) (at_ : Int) : Nat :=
 if (nextAt l at_).2 = 0 \/ first (nextAt l at_).1 = false then 0 else tailF l (at_.toNat + (nextAt l at_).2) (at_.toNat + (nextAt l at_).2) - at_.toNat
theorem runF_no {first : Int -> Bool} {l : List UInt8} {a v : Int} {n : Nat} (h : nextAt l a = (v, n)) (hs : n = 0 \/ first v = false) : runF first l a = 0 := by unfold runF; rw [h, if_pos hs]
theorem runF_go {first : Int -> Bool} {l : List UInt8} {a n : Nat} {v : Int} (h : nextAt l a = (v, n)) (hs : ¬ (n = 0 \/ first v = false)) : runF first l a = tailF l (a + n) (a + n) - a := by
 unfold runF; rw [h, if_neg hs, Int.toNat_natCast]
theorem tailF_ge (l : List UInt8) : ∀ (k i e : Nat), l.length - i <= k -> e <= i -> e <= tailF l i e
 | k, i, e, hk, he => by
  by_cases hs : (nextAt l i).2 = 0 \/ ((nextAt l i).1 ≠ 46 /\ followB (nextAt l i).1 = false)
  ·rw [tailF_stop rfl hs]; exact Nat.le_refl _
  ·rw [tailF_go rfl hs]
   have hn : (nextAt l i).2 ≠ 0 := fun x => hs (Or.inl x)
   have hb := nextAt_bound (l := l) (i := (i : Int)) (v := (nextAt l i).1) (n := (nextAt l i).2) rfl hn
   match k with
   | 0 => omega
   | k + 1 =>
    have := tailF_ge l k (i + (nextAt l i).2) (if (nextAt l i).1 = 46 then e else i + (nextAt l i).2) (by omega) (by split <;> omega)
    refine Nat.le_trans ?_ this
    split <;> omega
theorem label_not_dot {v : Int} (h : labelB v = true) : v ≠ 46 := by
 intro e
 subst e
 revert h
 decide
theorem label_follow {v : Int} (h : labelB v = true) : followB v = true := by
 unfold labelB at h
 unfold followB
 rw [h]
 rfl
end Go.Proofs.YtdhmpakhdhdebaaGreatDoor
namespace Go.Proofs.YtdhmpakhdhdebaaGreatDoor
open Go.RowKit
set_option maxRecDepth 100000
def hexB (c : Int) : Bool := decide (48 <= c /\ c <= 57) || decide (97 <= c /\ c <= 102) || decide (65 <= c /\ c <= 70)
def percB (r : List UInt8) : Bool := match r with
 | a :: b :: c :: _ => decide (a = 37) && (hexB (b.toNat : Int) && hexB (c.toNat : Int))
 | _ => false
def escs : List UInt8 := [95, 126, 46, 45, 33, 36, 38, 39, 40, 41, 42, 43, 44, 59, 61, 47, 63, 35, 64, 37]
def escB (r : Int) : Bool := escs.any fun c => (c.toNat : Int) == r
def standsB (r : Int) (first last : Bool) : Bool := decide (r = 58) || (match first, last with
 | true, _ => startB r || digitB r
 | false, true => followB r
 | false, false => followB r || decide (r = 46))
theorem percB_short {r : List UInt8} (h : r.length < 3) : percB r = false := by
 match r, h with
 | [], _ => rfl
 | [_], _ => rfl
 | [_, _], _ => rfl
theorem percB_at {r : List UInt8} (h : 3 <= r.length) : percB r = (decide (r[0] = 37) && (hexB (r[1].toNat : Int) && hexB (r[2].toNat : Int))) := by
 match r, h with
 | a :: b :: c :: t, _ => rfl
theorem percB_front {r : List UInt8} (h : percB r = true) : ∃ t, r = 37 :: t := by
 match r, h with
 | a :: b :: c :: t, h =>
  simp [percB] at h
  exact ⟨b :: c :: t, by rw [h.1]⟩
 | [], h => cases h
 | [_], h => cases h
 | [_, _], h => cases h
theorem take_drop_len (l : List UInt8) (j : Nat) : (l.drop j).take (l.length - j) = l.drop j := List.take_of_length_le (by simp)
attribute [go_sem] take_drop_len
theorem least_big (n : Nat) (h : n = 2 \/ n = 3 \/ n = 4) : 128 <= leastOf n := by rcases h with rfl | rfl | rfl <;> decide
theorem leadN_cases (c : Nat) : leadN c = 0 \/ leadN c = 1 \/ leadN c = 2 \/ leadN c = 3 \/ leadN c = 4 := by
 unfold leadN
 repeat' split
 all_goals omega
theorem nextAt_ascii {l : List UInt8} {i v : Int} {n : Nat} (h : nextAt l i = (v, n)) (hn : n ≠ 0) (hv : v < 128) : n = 1 := by
 unfold nextAt at h
 by_cases hi : i < 0 \/ (l.length : Int) <= i
 ·rw [if_pos hi] at h; cases h; exact absurd rfl hn
 ·rw [if_neg hi] at h
  cases hr : l.drop i.toNat with
  | nil => rw [hr] at h; cases h; exact absurd rfl hn
  | cons c t =>
   rw [hr] at h
   by_cases hc : leadN c.toNat = 0 \/ t.length + 1 < leadN c.toNat
   ·rw [nextP_none hc] at h; cases h; exact absurd rfl hn
   ·have e : nextP (c :: t) = finN (leadN c.toNat) (tailV (leadV c.toNat) t (leadN c.toNat - 1)) := by rw [nextP, if_neg hc]
    rw [e] at h
    cases ho : tailV (leadV c.toNat) t (leadN c.toNat - 1) with
    | none => rw [ho] at h; cases h; exact absurd rfl hn
    | some x =>
     rw [ho, finN] at h
     by_cases hx : x < leastOf (leadN c.toNat) \/ scal x = false
     ·rw [if_pos hx] at h; cases h; exact absurd rfl hn
     ·rw [if_neg hx] at h
      cases h
      have hl := leadN_cases c.toNat
      have hb := least_big (leadN c.toNat)
      omega
theorem percB_len {r : List UInt8} (h : percB r = true) : 3 <= r.length := by
 rcases Nat.lt_or_ge r.length 3 with h' | h'
 ·rw [percB_short h'] at h; cases h
 ·exact h'
end Go.Proofs.YtdhmpakhdhdebaaGreatDoor
namespace Go.Proofs.YtdhmpakhdhdebaaGreatDoor
open Go.RowKit
set_option maxRecDepth 100000
def esc2 (r : List UInt8) : Bool := match r with
 | a :: b :: _ => decide (a = 92) && escB (b.toNat : Int)
 | _ => false
theorem esc2_front {r : List UInt8} (h : esc2 r = true) : ∃ b t, r = 92 :: b :: t /\ escB (b.toNat : Int) = true := by
 match r, h with
 | a :: b :: t, h =>
  simp [esc2] at h
  exact ⟨b, t, by rw [h.1], h.2⟩
 | [], h => cases h
 | [_], h => cases h
theorem nextAt_low {l : List UInt8} {j : Nat} {c : UInt8} {t : List UInt8} (h : l.drop j = c :: t) (hc : c.toNat < 128) : nextAt l j = ((c.toNat : Int), 1) := by
 rw [nextAt_nat, h, nextP_1 hc]
theorem nextAt_head {l : List UInt8} {j : Nat} {c : UInt8} {t : List UInt8} {v : Int} {n : Nat} (h : nextAt l j = (v, n)) (hn : n ≠ 0) (hv : v < 128) (hd : l.drop j = c :: t) : v = (c.toNat : Int) := by
 have h1 := nextAt_ascii h hn hv
 by_cases hc : c.toNat < 128
 ·rw [nextAt_low hd hc] at h
  cases h
  rfl
 ·exfalso
  rw [nextAt_nat, hd] at h
  by_cases hb : leadN c.toNat = 0 \/ t.length + 1 < leadN c.toNat
  ·rw [nextP_none hb] at h; cases h; exact hn rfl
  ·have e : nextP (c :: t) = finN (leadN c.toNat) (tailV (leadV c.toNat) t (leadN c.toNat - 1)) := by rw [nextP, if_neg hb]
   rw [e] at h
   cases ho : tailV (leadV c.toNat) t (leadN c.toNat - 1) with
   | none => rw [ho] at h; cases h; exact hn rfl
   | some x =>
    rw [ho, finN] at h
    by_cases hx : x < leastOf (leadN c.toNat) \/ scal x = false
    ·rw [if_pos hx] at h; cases h; exact hn rfl
    ·rw [if_neg hx] at h
     cases h
     unfold leadN at h1
     repeat' split at h1
     all_goals omega
def stepL (l : List UInt8) (j : Nat) : (List UInt8 × Nat) ⊕ Int :=
 if percB (l.drop j) = true then .inl ((l.drop j).take 3, 3)
 else if esc2 (l.drop j) = true then .inl ((l.drop (j + 1)).take 1, 2)
 else if (nextAt l j).2 = 0 then .inr 40
 else if (nextAt l j).1 = 37 \/ (nextAt l j).1 = 92 then .inr 62
 else if standsB (nextAt l j).1 (decide (j = 0)) (decide (j + (nextAt l j).2 = l.length)) = true then .inl ((l.drop j).take (nextAt l j).2, (nextAt l j).2)
 else .inr 62
theorem stepL_bound {l : List UInt8} {j n : Nat} {t : List UInt8} (h : stepL l j = .inl (t, n)) : 0 < n /\ j + n <= l.length /\ t.length <= n := by
 unfold stepL at h
 obtain ⟨v, m, hq⟩ : ∃ v m, nextAt l (j : Int) = (v, m) := ⟨_, _, rfl⟩
 rw [hq] at h
 simp only at h
 split at h
 ·next hp =>
  have := percB_len hp
  simp at this
  cases h
  simp
  omega
 ·split at h
  ·next he =>
   obtain ⟨b, t', e, _⟩ := esc2_front he
   have := congrArg List.length e
   simp at this
   cases h
   simp
   omega
  ·split at h
   ·cases h
   ·next hm =>
    have hb := nextAt_bound hq hm
    split at h
    ·cases h
    ·split at h
     ·cases h
      simp
      omega
     ·cases h
def locF (l : List UInt8) (j : Nat) : List UInt8 ⊕ (Nat × Int) :=
 if l.length <= j then .inl [] else match _h : stepL l j with
  | .inr e => .inr (j, e)
  | .inl (t, n) => match locF l (j + n) with
   | .inl r => .inl (t ++ r)
   | .inr e => .inr e
termination_by l.length - j
decreasing_by have := stepL_bound _h; omega
def putF (acc : List UInt8) : List UInt8 ⊕ (Nat × Int) -> List UInt8 ⊕ (Nat × Int)
 | .inl r => .inl (acc ++ r)
 | .inr e => .inr e
theorem putF_nil (x : List UInt8 ⊕ (Nat × Int)) : putF [] x = x := by cases x <;> rfl
theorem putF_put (a b : List UInt8) (x : List UInt8 ⊕ (Nat × Int)) : putF a (putF b x) = putF (a ++ b) x := by cases x <;> simp [putF]
theorem locF_end {l : List UInt8} {j : Nat} (h : l.length <= j) : locF l j = .inl [] := by rw [locF, if_pos h]
theorem locF_bad {l : List UInt8} {j : Nat} {e : Int} (h : j < l.length) (hs : stepL l j = .inr e) : locF l j = .inr (j, e) := by
 rw [locF, if_neg (by omega)]
 split
 ·next e' h' => rw [hs] at h'; cases h'; rfl
 ·next t n h' => rw [hs] at h'; cases h'
theorem locF_step {l : List UInt8} {j n : Nat} {t : List UInt8} (h : j < l.length) (hs : stepL l j = .inl (t, n)) : locF l j = putF t (locF l (j + n)) := by
 rw [locF, if_neg (by omega)]
 split
 ·next e' h' => rw [hs] at h'; cases h'
 ·next t' n' h' => rw [hs] at h'; cases h'; cases locF l (j + n) <;> rfl
def pieceF (l : List UInt8) (j : Nat) : List UInt8 × Nat × Int :=
 if percB (l.drop j) = true then ((l.drop j).take 3, 3, -1)
 else if esc2 (l.drop j) = true then ((l.drop (j + 1)).take 1, 2, -1)
 else if (nextAt l j).2 = 0 then ([], 0, -3)
 else if (nextAt l j).1 = 37 \/ (nextAt l j).1 = 92 then ([], 1, -2)
 else ((l.drop j).take (nextAt l j).2, (nextAt l j).2, (nextAt l j).1)
end Go.Proofs.YtdhmpakhdhdebaaGreatDoor
namespace Go.Proofs.YtdhmpakhdhdebaaGreatDoor
open Go.RowKit
set_option maxRecDepth 100000
def scalF (l : List UInt8) (i : Nat) : Option (List Int) :=
 if _h : l.length <= i then some [] else if _h2 : (nextAt l i).2 = 0 then none else (scalF l (i + (nextAt l i).2)).map ((nextAt l i).1 :: ·)
termination_by l.length - i
decreasing_by omega
theorem scalF_end {l : List UInt8} {i : Nat} (h : l.length <= i) : scalF l i = some [] := by rw [scalF, dif_pos h]
theorem scalF_none {l : List UInt8} {i : Nat} {v : Int} (h : i < l.length) (hq : nextAt l i = (v, 0)) : scalF l i = none := by rw [scalF, dif_neg (by omega), hq, dif_pos rfl]
theorem scalF_go {l : List UInt8} {i n : Nat} {v : Int} (h : i < l.length) (hq : nextAt l i = (v, n)) (hn : n ≠ 0) : scalF l i = (scalF l (i + n)).map (v :: ·) := by rw [scalF, dif_neg (by omega), hq, dif_neg hn]
def okRest : List Int -> Bool
 | [] => true
 | x :: t => (followB x || (x == 46 && !t.isEmpty)) && okRest t
theorem okRest_follow {x : Int} {t : List Int} (h : followB x = true) : okRest (x :: t) = okRest t := by rw [okRest, h]; rfl
theorem okRest_dot {t : List Int} (h : t ≠ []) : okRest (46 :: t) = okRest t := by
 cases t with
 | nil => exact absurd rfl h
 | cons y t => rw [okRest, show followB 46 = false by decide]; rfl
theorem okRest_other {x : Int} {t : List Int} (h : followB x = false) (h2 : x ≠ 46) : okRest (x :: t) = false := by
 rw [okRest, h, show (x == 46) = false from beq_eq_false_iff_ne.2 h2]; rfl
theorem tailF_whole (l : List UInt8) : ∀ (k i e : Nat), l.length - i <= k -> i <= l.length -> e <= i -> (tailF l i e = l.length ↔ ∃ sc, scalF l i = some sc /\ (sc = [] -> e = l.length) /\ okRest sc = true)
 | k, i, e, hk, hi, he => by
  obtain ⟨v, n, hq⟩ : ∃ v n, nextAt l (i : Int) = (v, n) := ⟨_, _, rfl⟩
  by_cases hend : i = l.length
  ·have h0 : n = 0 := by
    have := nextAt_out (l := l) (i := (i : Int)) (.inr (by omega))
    rw [hq] at this
    exact (Prod.mk.inj this).2
   rw [tailF_stop hq (.inl h0), scalF_end (by omega)]
   constructor
   ·intro h; exact ⟨[], rfl, fun _ => h, rfl⟩
   ·rintro ⟨sc, h1, h2, _⟩
    cases h1
    exact h2 rfl
  have hlt : i < l.length := by omega
  by_cases hn : n = 0
  ·subst hn
   rw [tailF_stop hq (.inl rfl), scalF_none hlt hq]
   constructor
   ·intro h; omega
   ·rintro ⟨sc, h1, _⟩; cases h1
  have hb := nextAt_bound hq hn
  have hk1 : 1 <= k := by omega
  obtain ⟨k, rfl⟩ : ∃ k', k = k' + 1 := ⟨k - 1, by omega⟩
  rw [scalF_go hlt hq hn]
  by_cases hv : v = 46
  ·subst hv
   rw [tailF_go hq (by rintro (h | h); exact hn h; exact h.1 rfl), if_pos rfl, tailF_whole l k (i + n) e (by omega) (by omega) (by omega)]
   constructor
   ·rintro ⟨sc, h1, h2, h3⟩
    have hne : sc ≠ [] := fun h => by have := h2 h; omega
    exact ⟨46 :: sc, by rw [h1]; rfl, (fun h => by cases h), by rw [okRest_dot hne]; exact h3⟩
   ·rintro ⟨sc, h1, h2, h3⟩
    cases hs : scalF l (i + n) with
    | none => rw [hs] at h1; cases h1
    | some sc' =>
     rw [hs] at h1
     cases h1
     cases sc' with
     | nil => exact absurd h3 (by decide)
     | cons y t => exact ⟨y :: t, rfl, (fun h => by cases h), by rw [okRest_dot (by simp)] at h3; exact h3⟩
  cases hf : followB v with
  | false =>
   rw [tailF_stop hq (.inr ⟨hv, hf⟩)]
   constructor
   ·intro h; omega
   ·rintro ⟨sc, h1, h2, h3⟩
    cases hs : scalF l (i + n) with
    | none => rw [hs] at h1; cases h1
    | some sc' =>
     rw [hs] at h1
     cases h1
     rw [okRest_other hf hv] at h3
     cases h3
  | true =>
   rw [tailF_go hq (by rw [hf]; rintro (h | h); exact hn h; cases h.2), if_neg hv, tailF_whole l k (i + n) (i + n) (by omega) (by omega) (Nat.le_refl _)]
   constructor
   ·rintro ⟨sc, h1, h2, h3⟩
    exact ⟨v :: sc, by rw [h1]; rfl, (fun h => by cases h), by rw [okRest_follow hf]; exact h3⟩
   ·rintro ⟨sc, h1, h2, h3⟩
    cases hs : scalF l (i + n) with
    | none => rw [hs] at h1; cases h1
    | some sc' =>
     rw [hs] at h1
     cases h1
     rw [okRest_follow hf] at h3
     refine ⟨sc', rfl, fun h => ?_, h3⟩
     subst h
     by_cases hx : l.length <= i + n
     ·omega
     ·exfalso
      obtain ⟨v2, n2, hq2⟩ : ∃ v m, nextAt l ((i + n : Nat) : Int) = (v, m) := ⟨_, _, rfl⟩
      by_cases hn2 : n2 = 0
      ·subst hn2; rw [scalF_none (by omega) hq2] at hs; cases hs
      ·rw [scalF_go (by omega) hq2 hn2] at hs
       cases h4 : scalF l (i + n + n2) with
       | none => rw [h4] at hs; cases hs
       | some t => rw [h4] at hs; cases hs
def wholeR (first : Int -> Bool) (l : List UInt8) : Bool := match scalF l 0 with
 | some (v :: t) => first v && okRest t
 | _ => false
theorem run_whole (first : Int -> Bool) (l : List UInt8) : (decide (runF first l 0 ≠ 0 /\ runF first l 0 = l.length)) = wholeR first l := by
 obtain ⟨v, n, hq⟩ : ∃ v n, nextAt l ((0 : Nat) : Int) = (v, n) := ⟨_, _, rfl⟩
 have hq' : nextAt l 0 = (v, n) := hq
 unfold wholeR
 by_cases hl : l.length = 0
 ·have h0 : n = 0 := by
   have := nextAt_out (l := l) (i := 0) (.inr (by omega))
   rw [hq'] at this
   exact (Prod.mk.inj this).2
  rw [runF_no hq' (.inl h0), scalF_end (by omega)]
  simp
 by_cases hn : n = 0
 ·subst hn
  rw [runF_no hq' (.inl rfl), scalF_none (by omega) hq]
  simp
 rw [scalF_go (by omega) hq hn]
 cases hf : first v with
 | false =>
  rw [runF_no hq' (.inr hf)]
  cases scalF l (0 + n) <;> simp [hf]
 | true =>
  have hb := nextAt_bound hq hn
  have hr := runF_go (first := first) (l := l) (a := 0) hq (by rw [hf]; rintro (h | h); exact hn h; cases h)
  rw [show ((0 : Nat) : Int) = 0 from rfl] at hr
  rw [hr, Nat.zero_add, Nat.sub_zero]
  have hw := tailF_whole l (l.length - n) n n (Nat.le_refl _) (by omega) (Nat.le_refl _)
  have hge := tailF_ge l _ n n (Nat.le_refl _) (Nat.le_refl _)
  rw [Bool.eq_iff_iff]
  simp only [decide_eq_true_eq]
  constructor
  ·rintro ⟨_, h⟩
   obtain ⟨sc, h1, h2, h3⟩ := hw.1 h
   rw [h1]
   simp [hf, h3]
  ·intro h
   refine ⟨by omega, hw.2 ?_⟩
   cases hs : scalF l n with
   | none => rw [hs] at h; cases h
   | some sc =>
    rw [hs] at h
    simp [hf] at h
    refine ⟨sc, rfl, fun he => ?_, h⟩
    subst he
    by_cases hx : l.length <= n
    ·omega
    ·exfalso
     obtain ⟨v2, n2, hq2⟩ : ∃ v m, nextAt l ((n : Nat) : Int) = (v, m) := ⟨_, _, rfl⟩
     by_cases hn2 : n2 = 0
     ·subst hn2; rw [scalF_none (by omega) hq2] at hs; cases hs
     ·rw [scalF_go (by omega) hq2 hn2] at hs
      cases h4 : scalF l (n + n2) with
      | none => rw [h4] at hs; cases hs
      | some t => rw [h4] at hs; cases hs
end Go.Proofs.YtdhmpakhdhdebaaGreatDoor
