/-
  names.Basic and the reference's Basic: contracts. By an AI agent.
-/
import Derived.Test.YtfjcbodkjjmagaaDoorGPlain
import Derived.Test.YtfjcbodkjjmagaaDoorLower
import Derived.Test.YtfjcbodkjjmagaaDoorShelf
import Derived.WalkSpells
namespace Go.Proofs.YtfjcbodkjjmagaaDoor
open Go.RowKit
set_option maxRecDepth 100000

theorem cat45 (m : List UInt8) : B m ++ (⟨#[45]⟩ : ByteArray) = B (m ++ [45]) := B_append m [45]

theorem beqL_dec (a b : List UInt8) : (a == b) = decide (a = b) := by rw [Bool.eq_iff_iff, beq_iff_eq, decide_eq_true_iff]
theorem lowL_len (l : List UInt8) : (lowL l).length = l.length := by simp [lowL]
set_option maxHeartbeats 400000 in
theorem basic_l (r t : List UInt8) (w : World) (hr : r.length ≤ 16777216) (ht : t.length ≤ 16777216) :
    Calls Tryd.prog 22 #[.string (B r), .string (B t)] w fun e w' => e = .returned (.bool (basicP r t)) ∧ Below w.heap.size w w' := by
  have LOW := Lib.hid (fun (l : List UInt8) (hl : l.length ≤ 16777216) (w : World) => lower_l l w (by unfold maxLen; omega))
  have hrl : (lowL r).length ≤ 16777216 := by rw [lowL_len]; exact hr
  have HP := Lib.hid (show basicP r t = (lowL r == [42] || lowL r == lowL t || Lib.hasPrefix (lowL t) (lowL r ++ [45])) from rfl)
  go_enter Tryd.func22, Tryd.ntmps22
  by_cases h1 : lowL r = [42]
  · have q1 : (lowL r == [42]) = true := beq_iff_eq.2 h1
    rw [q1, Bool.true_or, Bool.true_or] at HP
    clear h1
    go_wp2_with (first | (go_at_call 34; refine (LOW.out _ (by assumption) _).mono ?_; rintro e w1 ⟨rfl, hx1⟩) | fail)
    go_ret
    exact ⟨by rw [HP.out]; rfl, Below.trans ‹_› (Below.mono ‹_› (Below.size ‹_›))⟩
  have q1 : (lowL r == [42]) = false := beq_eq_false_iff_ne.2 h1
  by_cases h2 : lowL r = lowL t
  · have q2 : (lowL r == lowL t) = true := beq_iff_eq.2 h2
    rw [q1, q2, Bool.false_or, Bool.true_or] at HP
    clear h1 h2
    go_wp2_with (first | (go_at_call 34; refine (LOW.out _ (by assumption) _).mono ?_; rintro e w1 ⟨rfl, hx1⟩) | fail)
    go_ret
    exact ⟨by rw [HP.out]; rfl, Below.trans ‹_› (Below.mono ‹_› (Below.size ‹_›))⟩
  have q2 : (lowL r == lowL t) = false := beq_eq_false_iff_ne.2 h2
  rw [q1, q2, Bool.false_or, Bool.false_or] at HP
  clear h1 h2
  go_wp2_with (first | (go_at_call 34; refine (LOW.out _ (by assumption) _).mono ?_; rintro e w1 ⟨rfl, hx1⟩) | (go_at_call 58; refine (Tryd.strings_HasPrefix _ _ _).mono ?_; rintro e w2 ⟨rfl, rfl⟩) | fail)
  go_ret
  exact ⟨by rw [HP.out, B_toList, B_toList]; rfl, Below.trans ‹_› (Below.mono ‹_› (Below.size ‹_›))⟩

set_option maxHeartbeats 400000 in
theorem refBasic_l (r t : List UInt8) (w : World) (hr : r.length ≤ 16777216) (ht : t.length ≤ 16777216) :
    Calls Tryd.prog 23 #[.string (B r), .string (B t)] w fun e w' => e = .returned (.bool (basicP r t)) ∧ Below w.heap.size w w' := by
  have LOW := Lib.hid (fun (l : List UInt8) (hl : l.length ≤ 16777216) (w : World) => refLower_l l w (by unfold maxLen; omega))
  have hrl : (lowL r).length ≤ 16777216 := by rw [lowL_len]; exact hr
  have htl : (lowL t).length ≤ 16777216 := by rw [lowL_len]; exact ht
  have HP := Lib.hid (show basicP r t = (lowL r == [42] || lowL r == lowL t || (lowL r ++ [45]).isPrefixOf (lowL t)) from rfl)
  go_enter Tryd.func23, Tryd.ntmps23
  by_cases h1 : lowL r = [42]
  · have q1 : (lowL r == [42]) = true := beq_iff_eq.2 h1
    rw [q1, Bool.true_or, Bool.true_or] at HP
    clear h1
    go_wp2_with (first | (go_at_call 35; refine (LOW.out _ (by assumption) _).mono ?_; rintro e w1 ⟨rfl, hx1⟩) | fail)
    go_ret
    exact ⟨by rw [HP.out]; rfl, Below.trans ‹_› (Below.mono ‹_› (Below.size ‹_›))⟩
  have q1 : (lowL r == [42]) = false := beq_eq_false_iff_ne.2 h1
  by_cases h2 : lowL r = lowL t
  · have q2 : (lowL r == lowL t) = true := beq_iff_eq.2 h2
    rw [q1, q2, Bool.false_or, Bool.true_or] at HP
    clear h1 h2
    go_wp2_with (first | (go_at_call 35; refine (LOW.out _ (by assumption) _).mono ?_; rintro e w1 ⟨rfl, hx1⟩) | fail)
    go_ret
    exact ⟨by rw [HP.out]; rfl, Below.trans ‹_› (Below.mono ‹_› (Below.size ‹_›))⟩
  have q2 : (lowL r == lowL t) = false := beq_eq_false_iff_ne.2 h2
  rw [q1, q2, Bool.false_or, Bool.false_or, prefix_take, List.length_append, List.length_singleton] at HP
  clear h1 h2
  by_cases h3 : (lowL r).length < (lowL t).length
  · have q3 : decide ((lowL r).length < (lowL t).length) = true := decide_eq_true h3
    have hle : (lowL r).length + 1 ≤ (lowL t).length := h3
    rw [decide_eq_true hle, Bool.true_and] at HP
    go_wp2_with (first | (go_at_call 35; refine (LOW.out _ (by assumption) _).mono ?_; rintro e w1 ⟨rfl, hx1⟩) | fail)
    go_ret
    refine ⟨?_, Below.trans ‹_› (Below.mono ‹_› (Below.size ‹_›))⟩
    rw [HP.out]
    show Ending.returned (.bool (List.take ((lowL r).length + 1) (lowL t) == (B (lowL r) ++ (⟨#[45]⟩ : ByteArray)).toList)) = _
    rw [cat45, B_toList', beqL_dec]
  · rw [decide_eq_false (by omega), Bool.false_and] at HP
    go_wp2_with (first | (go_at_call 35; refine (LOW.out _ (by assumption) _).mono ?_; rintro e w1 ⟨rfl, hx1⟩) | fail)
    go_ret
    exact ⟨by rw [HP.out]; rfl, Below.trans ‹_› (Below.mono ‹_› (Below.size ‹_›))⟩
end Go.Proofs.YtfjcbodkjjmagaaDoor
