/-
  Terms and quads as plain data; their order; sets of them. No program in sight. By an AI agent.
-/
import Std
import Derived.Lib.Bytealg
import Derived.Lib.Small
import Derived.Test.YtfocpjcbfbbpgaaGreatDoorZGPlain
namespace Go.Proofs.YtfocpjcbfbbpgaaGreatDoor
set_option maxRecDepth 100000
structure TermL where
 kind : Int
 text : List UInt8
 type : List UInt8
 lang : List UInt8
 deriving DecidableEq
def orI (a b : Int) : Int := if a = 0 then b else a
end Go.Proofs.YtfocpjcbfbbpgaaGreatDoor
namespace Go.Proofs.YtfocpjcbfbbpgaaGreatDoor
open Go.RowKit
set_option maxRecDepth 100000
def utfF (l : List UInt8) (j : Nat) : Int := if _h : l.length <= j then -1 else if _h2 : (nextAt l j).2 = 0 then (j : Int) else utfF l (j + (nextAt l j).2)
termination_by l.length - j
decreasing_by omega
theorem utfF_end {l : List UInt8} {j : Nat} (h : l.length <= j) : utfF l j = -1 := by rw [utfF, dif_pos h]
theorem utfF_bad {l : List UInt8} {j : Nat} {v : Int} (h : j < l.length) (hq : nextAt l (j : Int) = (v, 0)) : utfF l j = j := by rw [utfF, dif_neg (by omega), hq, dif_pos rfl]
theorem utfF_go {l : List UInt8} {j n : Nat} {v : Int} (h : j < l.length) (hq : nextAt l (j : Int) = (v, n)) (hn : n ≠ 0) : utfF l j = utfF l (j + n) := by
 rw [utfF, dif_neg (by omega), hq, dif_neg hn]
def barC (c : UInt8) : Bool := decide (c.toNat <= 32) || [60, 62, 34, 123, 125, 124, 94, 92, 96].contains c
def refN (l : List UInt8) : Int := if 65536 < l.length then 2 else if 0 <= utfF l 0 then 40 else if l.any barC = true then 50 else 0
def schemeN : List UInt8 -> Nat -> Nat
 | [], _ => 0
 | c :: r, i => if c = 58 then i else if alphaC c = true \/ (i ≠ 0 /\ (digC c = true \/ c = 43 \/ c = 45 \/ c = 46)) then schemeN r (i + 1) else 0
def iriN (l : List UInt8) : Int := if refN l ≠ 0 then refN l else if schemeN l 0 = 0 then 51 else 0
def tagged : List UInt8 := [104, 116, 116, 112, 58, 47, 47, 119, 119, 119, 46, 119, 51, 46, 111, 114, 103, 47, 49, 57, 57, 57, 47, 48, 50, 47, 50, 50, 45, 114, 100, 102, 45, 115, 121, 110, 116, 97, 120, 45, 110, 115, 35, 108, 97, 110, 103, 83, 116, 114, 105, 110, 103]
def langN (l : List UInt8) : Int := if l = [] then 0 else if 65536 < l.length then 2 else if (tagF l).isNone = true then 61 else if lowL l = l then 0 else 61
def litN (t : TermL) : Int :=
 if 65536 < t.text.length then 2 else if 0 <= utfF t.text 0 then 40 else if iriN t.type ≠ 0 then iriN t.type else if langN t.lang ≠ 0 then langN t.lang
 else if (t.lang = []) = (t.type = tagged) then 71 else 0
def termN (t : TermL) : Int :=
 if t.kind = 1 \/ t.kind = 2 then (if ¬ (t.type = [] /\ t.lang = []) then 70 else if t.kind = 1 then iriN t.text else if 65536 < t.text.length then 2 else if wholeR labelB t.text then 0 else 60)
 else if t.kind = 3 then litN t else 70
def noTerm : TermL := ⟨0, [], [], []⟩
end Go.Proofs.YtfocpjcbfbbpgaaGreatDoor
