/-
  names.tagReader's tail: contract. By an AI agent.
-/
import Derived.Test.YtfjcbodkjjmagaaDoorSees
namespace Go.Proofs.YtfjcbodkjjmagaaDoor
open Go.RowKit
set_option maxRecDepth 100000

/-- the parts, each behind a hyphen -/
def flatH (l : List (List UInt8)) : List UInt8 := l.flatMap fun p => 45 :: p
theorem flatH_snoc (l : List (List UInt8)) (p : List UInt8) : flatH (l ++ [p]) = flatH l ++ 45 :: p := by simp [flatH]
theorem flatH_nil : ∀ l : List (List UInt8), (flatH l != []) = !(l == [])
  | [] => rfl
  | p :: r => by simp [flatH]
theorem flatH_empty (l : List (List UInt8)) : (flatH l).isEmpty = (l == []) := by cases l <;> simp [flatH]
theorem cat45' (m : List UInt8) : (⟨#[45]⟩ : ByteArray) ++ B m = B (45 :: m) := B_append [45] m
attribute [go_sem] cat45'
theorem tagTail_nil (lo : Nat) : tagTail lo [] = ([], []) := rfl
theorem tagTail_yes {lo : Nat} {p : List UInt8} {r : List (List UInt8)} (h : madeB p lo 8 false = true) : tagTail lo (p :: r) = (p :: (tagTail lo r).1, (tagTail lo r).2) := by rw [tagTail, if_pos h]
theorem tagTail_no {lo : Nat} {p : List UInt8} {r : List (List UInt8)} (h : madeB p lo 8 false = false) : tagTail lo (p :: r) = ([], p :: r) := by rw [tagTail, if_neg (by rw [h]; simp)]
theorem made_len {p : List UInt8} {lo hi : Nat} {pu : Bool} (h : madeB p lo hi pu = true) : lo ≤ p.length ∧ p.length ≤ hi := by
  unfold madeB at h
  simp at h
  exact h.2
def cellLen (w : World) (b : Nat) : Nat := match w.cell? ⟨b, 0, none⟩ with
  | some v => lenV v
  | none => 0
theorem cellLen_of {w : World} {b : Nat} {v : Value} (h : w.cell? ⟨b, 0, none⟩ = some v) : cellLen w b = lenV v := by unfold cellLen; rw [h]
theorem ViewAt.len {w : World} {k : Nat} {v : Value} {xs : List (List UInt8)} (h : ViewAt w k v xs) : lenV v = xs.length := by
  obtain ⟨o, cap, rfl, _⟩ := h
  rfl
theorem grown_trans {w v u : World} {r : Option Nat} (h : w.grownBy v r) (h2 : v.grownBy u r) : w.grownBy u r :=
  ⟨h2.1.trans h.1, h2.2.trans h.2, h2.3.trans h.3, Nat.le_trans h.4 h2.4, fun b hb hn => (h2.5 b (Nat.lt_of_lt_of_le hb h.4) hn).trans (h.5 b hb hn)⟩
theorem below_grown {w w' : World} (h : Below w.heap.size w w') (row : Option Nat) : w.grownBy w' row := ⟨h.os, h.tape, h.output, h.size, fun k hk _ => h.block k hk⟩

set_option maxHeartbeats 3200000 in
theorem ttail_l (lo b k : Nat) (ps : List (List UInt8)) (lv : Value) (fs : List Value) (w : World) (hlo : lo ≤ 1000) (hv : ViewAt w k lv ps) (hR : RowAt w b (lv :: fs)) (hk : k ≠ b) (hbw : b < w.heap.size) (hp : ∀ p ∈ ps, p.length ≤ 140737488351232) (hn : ps.length ≤ 16777216) :
    Calls Tryd.prog 70 #[.pointer (some ⟨b, 0, none⟩), .int .i64 (lo : Int)] w fun e w' => e = .returned (.tuple #[.string (B (flatH (tagTail lo ps).1)), .bool (!((tagTail lo ps).1 == []))]) ∧
      ∃ lv', ViewAt w' k lv' (tagTail lo ps).2 ∧ RowAt w' b (lv' :: fs) ∧ w.grownBy w' (some b) := by
  obtain ⟨W1, hW1⟩ : ∃ W1, w.alloc (.cells #[.int .i64 (lo : Int)] 3) = W1 := ⟨_, rfl⟩
  have hb01 : Below w.heap.size w W1 := by rw [← hW1]; exact (Below.refl _ _).alloc (Nat.le_refl _) _
  have s1 : W1.heap.size = w.heap.size + 1 := by rw [← hW1, World.size_alloc]
  have hcell : W1.cell? ⟨w.heap.size, 0, none⟩ = some (.int .i64 (lo : Int)) := by rw [← hW1, World.cell?_alloc_new]; rfl
  have hv1 := hv.below hb01
  have hR1 := hR.below hb01 hbw
  have SEES := Lib.hid (sees_tail1 b k)
  have NEXT := Lib.hid (tnext_l b k)
  have HB := Lib.hid (And.intro hb01 hcell)
  obtain ⟨m, hm⟩ : ∃ m, (tagTail lo ps).1 = m := ⟨_, rfl⟩
  obtain ⟨rest, hrest⟩ : ∃ rest, (tagTail lo ps).2 = rest := ⟨_, rfl⟩
  rw [hm, hrest]
  have HT : Hid (tagTail lo ps = (m, rest)) := Lib.hid (by rw [← hm, ← hrest])
  clear hb01 hcell hv hR hm hrest
  have HV1 := Lib.hid hv1
  have HR1 := Lib.hid hR1
  have HP := Lib.hid hp
  clear hv1 hR1 hp
  go_enter Tryd.func70, Tryd.ntmps70
  go_wp2_with fail
  go_loopw [6] (fun s wr => ∃ (taken left : List (List UInt8)) (lv : Value), s = .string (B (flatH taken)) ∧ (flatH taken).length ≤ 9 * taken.length ∧ ps.length = taken.length + left.length ∧ (∀ p ∈ left, p.length ≤ 140737488351232) ∧ Hid ((m, rest) = (taken ++ (tagTail lo left).1, (tagTail lo left).2)) ∧ ViewAt wr k lv left ∧ RowAt wr b (lv :: fs) ∧ W1.grownBy wr (some b)) (fun _ wr => cellLen wr b)
  case atStart => exact ⟨[], ps, lv, rfl, by simp [flatH], by simp, HP.out, Lib.hid (by rw [← HT.out]; simp), HV1.out, HR1.out, World.grownBy.refl _ _⟩
  case round =>
    obtain ⟨taken, left, lv, rfl, htl, hpl, hpp, HM, hv, hR, hg⟩ := hrel
    have hcl : wr.cell? ⟨w.heap.size, 0, none⟩ = some (.int .i64 (lo : Int)) := by
      rw [World.cell?_of_block (hg.block w.heap.size (by omega) (by simp; omega))]
      exact HB.out.2
    have S := Lib.hid (SEES.out left lv fs wr lo w.heap.size hlo hcl hv hR hpp)
    have HV := Lib.hid hv
    have HR := Lib.hid hR
    have HG := Lib.hid hg
    have HPP := Lib.hid hpp
    have hlen := hv.len
    have hc0 := hR.cell (j := 0) (by simp)
    simp only [List.getElem_cons_zero] at hc0
    have hcm := cellLen_of hc0
    rw [hlen] at hcm
    have HCM := Lib.hid hcm
    clear hv hR hg hpp hlen hc0 hcm hcl
    cases hq : seesF (fun p => madeB p lo 8 false) left with
    | false =>
      have hno : tagTail lo left = ([], left) := by
        rcases left with _ | ⟨p, left⟩
        · rfl
        · exact tagTail_no hq
      have HE : m = taken ∧ rest = left := by have h := HM.out; rw [hno] at h; cases h; simp
      obtain ⟨rfl, rfl⟩ := HE
      rw [hq] at S
      clear HM hno hq
      go_wp2_with (go_at_call 65; (with_reducible refine S.out.mono ?_); rintro e w3 ⟨rfl, hb3⟩; have HV3 := Lib.hid (HV.out.below hb3); have HR3 := Lib.hid (HR.out.below hb3 (World.block_lt_of_cell? _ _ (HR.out.cell (j := 0) (by simp)))); have HG3 := Lib.hid (grown_trans HG.out (below_grown hb3 (some b))); clear hb3)
      go_ret2
      exact ⟨by rw [flatH_empty] <;> rfl, _, HV3.out, HR3.out, grown_trans (below_grown HB.out.1 _) HG3.out⟩
    | true =>
      rcases left with _ | ⟨p, left⟩
      · cases hq
      have hmd : madeB p lo 8 false = true := hq
      have hpl8 := (made_len hmd).2
      rw [hq] at S
      have HM2 : Hid ((m, rest) = ((taken ++ [p]) ++ (tagTail lo left).1, (tagTail lo left).2)) := Lib.hid (by rw [HM.out, tagTail_yes hmd]; simp)
      have hcat : (flatH taken).length + (p.length + 1) ≤ 140737488355328 := by rw [List.length_cons] at hpl; omega
      have HFS : Hid (flatH taken ++ 45 :: p = flatH (taken ++ [p])) := Lib.hid (flatH_snoc taken p).symm
      have HL8 := Lib.hid hpl8
      clear HM hq hmd
      go_wp2_with (first | (go_at_call 65; (with_reducible refine S.out.mono ?_); rintro e w3 ⟨rfl, hb3⟩; have HV3 := Lib.hid (HV.out.below hb3); have HR3 := Lib.hid (HR.out.below hb3 (World.block_lt_of_cell? _ _ (HR.out.cell (j := 0) (by simp)))); have HG3 := Lib.hid (grown_trans HG.out (below_grown hb3 (some b))); clear hb3) | (go_at_call 69; (with_reducible refine (NEXT.out p left lv fs w3 HV3.out HR3.out hk).mono ?_); rintro e w4 ⟨rfl, lv4, hv4, hR4, hg4⟩; have HV4 := Lib.hid hv4; have HR4 := Lib.hid hR4; have HG4 := Lib.hid (grown_trans HG3.out hg4); clear hv4 hR4 hg4) | fail)
      go_roundw
      case rel => exact ⟨taken ++ [p], left, lv4, by rw [HFS.out], by have := HL8.out; rw [← HFS.out]; simp; omega, by simp at hpl ⊢; omega, fun q hq => HPP.out q (by simp [hq]), HM2, HV4.out, HR4.out, HG4.out⟩
      case measure =>
        rw [HCM.out]
        have h4 := HR4.out.cell (j := 0) (by simp)
        simp only [List.getElem_cons_zero] at h4
        rw [cellLen_of h4, HV4.out.len]
        simp
end Go.Proofs.YtfjcbodkjjmagaaDoor
