/-
  Letters made small: the plain words. No program in sight. By an AI agent.
-/
import Derived.Test.YtfjcbodkjjmagaaDoorKit
namespace Go.Proofs.YtfjcbodkjjmagaaDoor
open Go.RowKit
set_option maxRecDepth 100000

def lowB (c : UInt8) : UInt8 := if 65 ≤ c.toNat ∧ c.toNat ≤ 90 then c + 32 else c
def lowL (l : List UInt8) : List UInt8 := l.map lowB
/-- the first k bytes made small -/
def lowTo (k : Nat) (l : List UInt8) : List UInt8 := (l.take k).map lowB ++ l.drop k

theorem lowTo_length (k : Nat) (l : List UInt8) : (lowTo k l).length = l.length := by simp [lowTo]; omega
theorem lowTo_zero (l : List UInt8) : lowTo 0 l = l := by simp [lowTo]
theorem lowTo_all (l : List UInt8) : lowTo l.length l = lowL l := by simp [lowTo, lowL]
theorem lowTo_at (k : Nat) (l : List UInt8) (h : k < l.length) : (lowTo k l)[k]'(by rw [lowTo_length]; exact h) = l[k] := by
  unfold lowTo
  rw [List.getElem_append_right (by simp; omega)]
  simp [Nat.min_eq_left (Nat.le_of_lt h)]
theorem lowTo_set (k : Nat) (l : List UInt8) (h : k < l.length) : (lowTo k l).set k (lowB l[k]) = lowTo (k + 1) l := by
  unfold lowTo
  rw [List.set_append_right _ _ (by simp; omega), List.length_map, List.length_take, Nat.min_eq_left (Nat.le_of_lt h), Nat.sub_self, List.drop_eq_getElem_cons h, List.set_cons_zero,
    List.take_succ_eq_append_getElem h, List.map_append, List.append_assoc]
  simp
theorem lowTo_keep (k : Nat) (l : List UInt8) (h : k < l.length) (hn : lowB l[k] = l[k]) : lowTo (k + 1) l = lowTo k l := by
  rw [← lowTo_set k l h, hn]
  have := lowTo_at k l h
  rw [← this, List.set_getElem_self]
theorem lowB_mid (c : UInt8) (h1 : 65 ≤ (c.toNat : Int)) (h2 : (c.toNat : Int) ≤ 90) : ((lowB c).toNat : Int) = (c.toNat : Int) + 32 := by
  unfold lowB
  rw [if_pos ⟨by omega, by omega⟩, UInt8.toNat_add]
  simp
  omega
theorem lowB_out (c : UInt8) (h : (c.toNat : Int) < 65 ∨ 90 < (c.toNat : Int)) : lowB c = c := by
  unfold lowB
  rw [if_neg (by omega)]
theorem low_store {wr : World} {g k : Nat} {l : List UInt8} {c : UInt8} (hr : RowAt wr g ((lowTo k l).map U8)) (hk : k < l.length) (HS : (lowTo k l).set k (lowB c) = lowTo (k + 1) l)
    (h1 : 65 ≤ (c.toNat : Int)) (h2 : (c.toNat : Int) ≤ 90) : RowAt (wr.setCell ⟨g, k, none⟩ (.int .u8 ((c.toNat : Int) + 32))) g ((lowTo (k + 1) l).map U8) := by
  rw [← HS, ← lowB_mid c h1 h2]
  exact hr.set_u8 (by rw [lowTo_length]; exact hk) _
theorem low_keep {wr : World} {g k : Nat} {l : List UInt8} {c : UInt8} (hr : RowAt wr g ((lowTo k l).map U8)) (hk : k < l.length) (hc : l[k] = c) (h : (c.toNat : Int) < 65 ∨ 90 < (c.toNat : Int)) :
    RowAt wr g ((lowTo (k + 1) l).map U8) := by
  rw [lowTo_keep k l hk (by rw [hc]; exact lowB_out c h)]
  exact hr

end Go.Proofs.YtfjcbodkjjmagaaDoor
