/-
  The parts of a language tag, read in plain words. No program in sight. By an AI agent.
-/
import Derived.Test.YtfjcbodkjjmagaaDoorJoin0
import Derived.Test.YtfjcbodkjjmagaaDoorLower0
namespace Go.Proofs.YtfjcbodkjjmagaaDoor
open Go.RowKit
def alphaC (c : UInt8) : Bool := (decide (97 ≤ c.toNat) && decide (c.toNat ≤ 122)) || (decide (65 ≤ c.toNat) && decide (c.toNat ≤ 90))
def digC (c : UInt8) : Bool := decide (48 ≤ c.toNat) && decide (c.toNat ≤ 57)
/-- so many bytes, all letters or digits; pure: all letters -/
def madeB (p : List UInt8) (lo hi : Nat) (pure : Bool) : Bool := p.all (fun c => alphaC c || (!pure && digC c)) && (decide (lo ≤ p.length) && decide (p.length ≤ hi))
def privB (p : List UInt8) : Bool := p == [120] || p == [88]
def variantB (p : List UInt8) : Bool := madeB p 5 8 false || (madeB p 4 4 false && digC (p.headD 0))
def regionB (p : List UInt8) : Bool := madeB p 2 2 true || (p.length == 3 && p.all digC)
/-- up to n parts of three letters -/
def ext3 : Nat → List (List UInt8) → List (List UInt8) × List (List UInt8)
  | 0, ps => ([], ps)
  | _ + 1, [] => ([], [])
  | n + 1, p :: r => if madeB p 3 3 true = true then (p :: (ext3 n r).1, (ext3 n r).2) else ([], p :: r)
/-- the language, what is extended, and the parts left -/
def langF : List (List UInt8) → Option (List UInt8 × List UInt8 × List (List UInt8))
  | [] => none
  | p :: r => if madeB p 2 8 true = true then (if 3 < p.length then some (p, [], r) else some (p, joinD (ext3 3 r).1, (ext3 3 r).2)) else none
/-- the next part, if it is such a one -/
def oneF (f : List UInt8 → Bool) : List (List UInt8) → List UInt8 × List (List UInt8)
  | [] => ([], [])
  | p :: r => if f p = true then (p, r) else ([], p :: r)
/-- the parts that are such ones -/
def tagTail (lo : Nat) : List (List UInt8) → List (List UInt8) × List (List UInt8)
  | [] => ([], [])
  | p :: r => if madeB p lo 8 false = true then (p :: (tagTail lo r).1, (tagTail lo r).2) else ([], p :: r)
theorem tagTail_len (lo : Nat) : ∀ ps, (tagTail lo ps).1.length + (tagTail lo ps).2.length = ps.length
  | [] => rfl
  | p :: r => by
    unfold tagTail
    split
    · have := tagTail_len lo r
      simp only [List.length_cons]
      omega
    · simp
/-- the variants, none twice -/
def varsF : List (List UInt8) → List (List UInt8) → Option (List (List UInt8) × List (List UInt8))
  | _, [] => some ([], [])
  | seen, p :: r => if variantB p = true then (if seen.contains (lowL p) = true then none else (varsF (seen ++ [lowL p]) r).map fun x => (p :: x.1, x.2)) else some ([], p :: r)
/-- the extensions, none twice -/
def extsF (seen : List (List UInt8)) : List (List UInt8) → Option (List (List UInt8) × List (List UInt8))
  | [] => some ([], [])
  | p :: r => if (madeB p 1 1 false && !privB p) = true then
      (if (tagTail 2 r).1 = [] ∨ seen.contains (lowL p) = true then none else (extsF (seen ++ [lowL p]) (tagTail 2 r).2).map fun x => (joinD (p :: (tagTail 2 r).1) :: x.1, x.2))
    else some ([], p :: r)
termination_by ps => ps.length
decreasing_by have := tagTail_len 2 r; simp; omega
/-- behind the language: script, region, variants, extensions; and the parts left -/
def restF (lang ext : List UInt8) (ps : List (List UInt8)) : Option (TagL × List (List UInt8)) :=
  let s := oneF (fun p => madeB p 4 4 true) ps
  let g := oneF regionB s.2
  match varsF [] g.2 with
  | none => none
  | some v => match extsF (v.1.map lowL) v.2 with
    | none => none
    | some e => some (⟨lang, ext, s.1, g.1, v.1, e.1, []⟩, e.2)
def noTag : TagL := ⟨[], [], [], [], [], [], []⟩
def seesPriv : List (List UInt8) → Bool
  | [] => false
  | p :: _ => privB p
/-- a tag ahead of its private part -/
def frontF (ps : List (List UInt8)) : Option (TagL × List (List UInt8)) :=
  if seesPriv ps = true then some (noTag, ps) else match langF ps with
    | none => none
    | some (l, e, r) => restF l e r
def tagP (ps : List (List UInt8)) : Option TagL :=
  match frontF ps with
  | none => none
  | some (t, []) => some t
  | some (t, p :: r) => if privB p = true then (if (tagTail 1 r).1 = [] then none else if (tagTail 1 r).2 = [] then some { t with priv := joinD (p :: (tagTail 1 r).1) } else none) else none
/-- a text's tag, if it is one -/
def tagF (s : List UInt8) : Option TagL := tagP (partsOf s)
end Go.Proofs.YtfjcbodkjjmagaaDoor
