/-
  The small tests of the reference's tag reader: contracts. By an AI agent.
-/
import Derived.Test.YtfjcbodkjjmagaaDoorMade
import Derived.Test.YtfjcbodkjjmagaaDoorReader
namespace Go.Proofs.YtfjcbodkjjmagaaDoor
open Go.RowKit
set_option maxRecDepth 100000

theorem alphaC_iff (c : UInt8) : alphaC c = true ↔ (97 ≤ (c.toNat : Int) ∧ (c.toNat : Int) ≤ 122) ∨ (65 ≤ (c.toNat : Int) ∧ (c.toNat : Int) ≤ 90) := by
  unfold alphaC; simp; omega
theorem digC_iff (c : UInt8) : digC c = true ↔ 48 ≤ (c.toNat : Int) ∧ (c.toNat : Int) ≤ 57 := by
  unfold digC; simp; omega
/-- from a place on: all such ones? -/
def allFrom (f : UInt8 → Bool) (p : List UInt8) (j : Nat) : Bool := (p.drop j).all f
theorem allFrom_zero (f : UInt8 → Bool) (p : List UInt8) : allFrom f p 0 = p.all f := rfl
theorem allFrom_end (f : UInt8 → Bool) (p : List UInt8) : allFrom f p p.length = true := by unfold allFrom; simp
theorem allFrom_step (f : UInt8 → Bool) {p : List UInt8} {j : Nat} (h : j < p.length) : allFrom f p j = (f p[j] && allFrom f p (j + 1)) := by
  unfold allFrom
  rw [List.drop_eq_getElem_cons h, List.all_cons]

set_option maxHeartbeats 800000 in
theorem numerals_l (p : List UInt8) (w : World) (hp : p.length ≤ 140737488351232) : Calls Tryd.prog 114 #[.string (B p)] w fun e w' => e = .returned (.bool (p.all digC)) ∧ w' = w := by
  have HZ : Hid (p.all digC = allFrom digC p 0) := Lib.hid rfl
  go_enter Tryd.func114, Tryd.ntmps114
  go_wp2
  go_loop [3] (fun i => ∃ j : Nat, j ≤ p.length ∧ i = .int .i64 j ∧ Hid (p.all digC = allFrom digC p j)) (fun i => p.length - (intOf i).toNat)
  case atStart => exact ⟨0, Nat.zero_le _, rfl, HZ⟩
  case round =>
    clear HZ
    obtain ⟨j, hj, rfl, HM⟩ := hrel
    by_cases hlt : j < p.length
    · have hst := allFrom_step digC hlt
      obtain ⟨c, hc⟩ : ∃ c, p[j] = c := ⟨_, rfl⟩
      rw [hc] at hst
      have hb := c.toNat_lt
      by_cases h1 : 48 ≤ (c.toNat : Int)
      · by_cases h2 : (c.toNat : Int) ≤ 57
        · have HE : Hid (p.all digC = allFrom digC p (j + 1)) := Lib.hid (by rw [HM.out, hst, (digC_iff c).2 (by omega), Bool.true_and])
          have HC := Lib.hid hc
          clear HM hst
          go_wp2
          go_round
          case rel => exact ⟨j + 1, hlt, by go_num, HE⟩
          case measure => simp [intOf]; omega
        · have hno : digC c = false := by
            cases h : digC c with
            | false => rfl
            | true => have := (digC_iff c).1 h; omega
          have HE : Hid (p.all digC = false) := Lib.hid (by rw [HM.out, hst, hno, Bool.false_and])
          clear HM hst hno
          go_wp2
          go_ret
          exact ⟨ret_bool HE.out.symm, rfl⟩
      · have hno : digC c = false := by
          cases h : digC c with
          | false => rfl
          | true => have := (digC_iff c).1 h; omega
        have HE : Hid (p.all digC = false) := Lib.hid (by rw [HM.out, hst, hno, Bool.false_and])
        clear HM hst hno
        go_wp2
        go_ret
        exact ⟨ret_bool HE.out.symm, rfl⟩
    · obtain rfl : j = p.length := by omega
      have HE : Hid (p.all digC = true) := Lib.hid (by rw [HM.out, allFrom_end])
      clear HM
      go_wp2
      go_ret
      exact ⟨ret_bool HE.out.symm, rfl⟩

set_option maxHeartbeats 800000 in
theorem letters_l (p : List UInt8) (w : World) (hp : p.length ≤ 140737488351232) : Calls Tryd.prog 115 #[.string (B p)] w fun e w' => e = .returned (.bool (p.all alphaC)) ∧ w' = w := by
  have HZ : Hid (p.all alphaC = allFrom alphaC p 0) := Lib.hid rfl
  go_enter Tryd.func115, Tryd.ntmps115
  go_wp2
  go_loop [3] (fun i => ∃ j : Nat, j ≤ p.length ∧ i = .int .i64 j ∧ Hid (p.all alphaC = allFrom alphaC p j)) (fun i => p.length - (intOf i).toNat)
  case atStart => exact ⟨0, Nat.zero_le _, rfl, HZ⟩
  case round =>
    clear HZ
    obtain ⟨j, hj, rfl, HM⟩ := hrel
    by_cases hlt : j < p.length
    · have hst := allFrom_step alphaC hlt
      obtain ⟨c, hc⟩ : ∃ c, p[j] = c := ⟨_, rfl⟩
      rw [hc] at hst
      have hb := c.toNat_lt
      have hcs : (c.toNat : Int) < 65 ∨ (65 ≤ (c.toNat : Int) ∧ (c.toNat : Int) ≤ 90) ∨ (91 ≤ (c.toNat : Int) ∧ (c.toNat : Int) ≤ 96) ∨ (97 ≤ (c.toNat : Int) ∧ (c.toNat : Int) ≤ 122) ∨ 123 ≤ (c.toNat : Int) := by omega
      rcases hcs with h | h | h | h | h
      · have da : decide (97 ≤ (c.toNat : Int)) = false := by simp; omega
        have db : decide ((c.toNat : Int) ≤ 122) = true := by simp; omega
        have dc : decide (65 ≤ (c.toNat : Int)) = false := by simp; omega
        have dd : decide ((c.toNat : Int) ≤ 90) = true := by simp; omega
        have hno : alphaC c = false := by
          cases h : alphaC c with
          | false => rfl
          | true => have := (alphaC_iff c).1 h; omega
        have HE : Hid (p.all alphaC = false) := Lib.hid (by rw [HM.out, hst, hno, Bool.false_and])
        clear HM hst hno
        go_wp2
        go_ret
        exact ⟨ret_bool HE.out.symm, rfl⟩
      · have da : decide (97 ≤ (c.toNat : Int)) = false := by simp; omega
        have db : decide ((c.toNat : Int) ≤ 122) = true := by simp; omega
        have dc : decide (65 ≤ (c.toNat : Int)) = true := by simp; omega
        have dd : decide ((c.toNat : Int) ≤ 90) = true := by simp; omega
        have HE : Hid (p.all alphaC = allFrom alphaC p (j + 1)) := Lib.hid (by rw [HM.out, hst, (alphaC_iff c).2 (by omega), Bool.true_and])
        have HC := Lib.hid hc
        clear HM hst
        go_wp2
        go_round
        case rel => exact ⟨j + 1, hlt, by go_num, HE⟩
        case measure => simp [intOf]; omega
      · have da : decide (97 ≤ (c.toNat : Int)) = false := by simp; omega
        have db : decide ((c.toNat : Int) ≤ 122) = true := by simp; omega
        have dc : decide (65 ≤ (c.toNat : Int)) = true := by simp; omega
        have dd : decide ((c.toNat : Int) ≤ 90) = false := by simp; omega
        have hno : alphaC c = false := by
          cases h : alphaC c with
          | false => rfl
          | true => have := (alphaC_iff c).1 h; omega
        have HE : Hid (p.all alphaC = false) := Lib.hid (by rw [HM.out, hst, hno, Bool.false_and])
        clear HM hst hno
        go_wp2
        go_ret
        exact ⟨ret_bool HE.out.symm, rfl⟩
      · have da : decide (97 ≤ (c.toNat : Int)) = true := by simp; omega
        have db : decide ((c.toNat : Int) ≤ 122) = true := by simp; omega
        have dc : decide (65 ≤ (c.toNat : Int)) = true := by simp; omega
        have dd : decide ((c.toNat : Int) ≤ 90) = false := by simp; omega
        have HE : Hid (p.all alphaC = allFrom alphaC p (j + 1)) := Lib.hid (by rw [HM.out, hst, (alphaC_iff c).2 (by omega), Bool.true_and])
        have HC := Lib.hid hc
        clear HM hst
        go_wp2
        go_round
        case rel => exact ⟨j + 1, hlt, by go_num, HE⟩
        case measure => simp [intOf]; omega
      · have da : decide (97 ≤ (c.toNat : Int)) = true := by simp; omega
        have db : decide ((c.toNat : Int) ≤ 122) = false := by simp; omega
        have dc : decide (65 ≤ (c.toNat : Int)) = true := by simp; omega
        have dd : decide ((c.toNat : Int) ≤ 90) = false := by simp; omega
        have hno : alphaC c = false := by
          cases h : alphaC c with
          | false => rfl
          | true => have := (alphaC_iff c).1 h; omega
        have HE : Hid (p.all alphaC = false) := Lib.hid (by rw [HM.out, hst, hno, Bool.false_and])
        clear HM hst hno
        go_wp2
        go_ret
        exact ⟨ret_bool HE.out.symm, rfl⟩
    · obtain rfl : j = p.length := by omega
      have HE : Hid (p.all alphaC = true) := Lib.hid (by rw [HM.out, allFrom_end])
      clear HM
      go_wp2
      go_ret
      exact ⟨ret_bool HE.out.symm, rfl⟩
end Go.Proofs.YtfjcbodkjjmagaaDoor
