/-
  The pieces of a local name: contracts of the small functions. By an AI agent.
-/
import Derived.Test.YtfjcbodkjjmagaaDoorPieces0
import Derived.Test.YtfjcbodkjjmagaaDoorRefChars
namespace Go.Proofs.YtfjcbodkjjmagaaDoor
open Go.RowKit
set_option maxRecDepth 100000

set_option maxHeartbeats 800000 in
theorem hex_any (c : UInt8) (w : World) : Calls Tryd.prog 95 #[.int .u8 (c.toNat : Int)] w fun e w' => e = .returned (.bool (hexB (c.toNat : Int))) ∧ w' = w := by
  obtain ⟨x, hx⟩ : ∃ x : Int, (c.toNat : Int) = x := ⟨_, rfl⟩
  rw [hx]
  clear hx
  have hc : x < 48 ∨ (48 ≤ x ∧ x ≤ 57) ∨ (58 ≤ x ∧ x ≤ 64) ∨ (65 ≤ x ∧ x ≤ 70) ∨ (71 ≤ x ∧ x ≤ 96) ∨ (97 ≤ x ∧ x ≤ 102) ∨ 103 ≤ x := by omega
  obtain ⟨q, hq⟩ : ∃ q, hexB x = q := ⟨_, rfl⟩
  have hv : (q = true ↔ ((48 ≤ x ∧ x ≤ 57) ∨ (97 ≤ x ∧ x ≤ 102) ∨ (65 ≤ x ∧ x ≤ 70))) := by rw [← hq]; unfold hexB; simp [or_assoc]
  rw [hq]
  clear hq
  rcases hc with h | h | h | h | h | h | h
  · obtain rfl : q = false := by cases q; rfl; have := hv.1 rfl; omega
    clear hv
    go_enter Tryd.func95, Tryd.ntmps95
    go_wp2
    go_ret
    exact ⟨ret_bool (by first | rfl | (simp; done) | (simp; omega)), rfl⟩
  · obtain rfl : q = true := hv.2 (by omega)
    obtain ⟨h1, h2⟩ := h
    clear hv
    go_enter Tryd.func95, Tryd.ntmps95
    go_wp2
    go_ret
    exact ⟨ret_bool (by first | rfl | (simp; done) | (simp; omega)), rfl⟩
  · obtain rfl : q = false := by cases q; rfl; have := hv.1 rfl; omega
    obtain ⟨h1, h2⟩ := h
    clear hv
    go_enter Tryd.func95, Tryd.ntmps95
    go_wp2
    go_ret
    exact ⟨ret_bool (by first | rfl | (simp; done) | (simp; omega)), rfl⟩
  · obtain rfl : q = true := hv.2 (by omega)
    obtain ⟨h1, h2⟩ := h
    clear hv
    go_enter Tryd.func95, Tryd.ntmps95
    go_wp2
    go_ret
    exact ⟨ret_bool (by first | rfl | (simp; done) | (simp; omega)), rfl⟩
  · obtain rfl : q = false := by cases q; rfl; have := hv.1 rfl; omega
    obtain ⟨h1, h2⟩ := h
    clear hv
    go_enter Tryd.func95, Tryd.ntmps95
    go_wp2
    go_ret
    exact ⟨ret_bool (by first | rfl | (simp; done) | (simp; omega)), rfl⟩
  · obtain rfl : q = true := hv.2 (by omega)
    obtain ⟨h1, h2⟩ := h
    clear hv
    go_enter Tryd.func95, Tryd.ntmps95
    go_wp2
    go_ret
    exact ⟨ret_bool (by first | rfl | (simp; done) | (simp; omega)), rfl⟩
  · obtain rfl : q = false := by cases q; rfl; have := hv.1 rfl; omega
    clear hv
    go_enter Tryd.func95, Tryd.ntmps95
    go_wp2
    go_ret
    exact ⟨ret_bool (by first | rfl | (simp; done) | (simp; omega)), rfl⟩

set_option maxHeartbeats 800000 in
theorem refHex_any (c : UInt8) (w : World) : Calls Tryd.prog 97 #[.int .u8 (c.toNat : Int)] w fun e w' => e = .returned (.bool (hexB (c.toNat : Int))) ∧ w' = w := by
  obtain ⟨x, hx⟩ : ∃ x : Int, (c.toNat : Int) = x := ⟨_, rfl⟩
  rw [hx]
  clear hx
  have hc : x < 48 ∨ (48 ≤ x ∧ x ≤ 57) ∨ (58 ≤ x ∧ x ≤ 64) ∨ (65 ≤ x ∧ x ≤ 70) ∨ (71 ≤ x ∧ x ≤ 96) ∨ (97 ≤ x ∧ x ≤ 102) ∨ 103 ≤ x := by omega
  obtain ⟨q, hq⟩ : ∃ q, hexB x = q := ⟨_, rfl⟩
  have hv : (q = true ↔ ((48 ≤ x ∧ x ≤ 57) ∨ (97 ≤ x ∧ x ≤ 102) ∨ (65 ≤ x ∧ x ≤ 70))) := by rw [← hq]; unfold hexB; simp [or_assoc]
  rw [hq]
  clear hq
  rcases hc with h | h | h | h | h | h | h
  · obtain rfl : q = false := by cases q; rfl; have := hv.1 rfl; omega
    clear hv
    go_enter Tryd.func97, Tryd.ntmps97
    go_wp2
    go_ret
    exact ⟨ret_bool (by first | rfl | (simp; done) | (simp; omega)), rfl⟩
  · obtain rfl : q = true := hv.2 (by omega)
    obtain ⟨h1, h2⟩ := h
    clear hv
    go_enter Tryd.func97, Tryd.ntmps97
    go_wp2
    go_ret
    exact ⟨ret_bool (by first | rfl | (simp; done) | (simp; omega)), rfl⟩
  · obtain rfl : q = false := by cases q; rfl; have := hv.1 rfl; omega
    obtain ⟨h1, h2⟩ := h
    clear hv
    go_enter Tryd.func97, Tryd.ntmps97
    go_wp2
    go_ret
    exact ⟨ret_bool (by first | rfl | (simp; done) | (simp; omega)), rfl⟩
  · obtain rfl : q = true := hv.2 (by omega)
    obtain ⟨h1, h2⟩ := h
    clear hv
    go_enter Tryd.func97, Tryd.ntmps97
    go_wp2
    go_ret
    exact ⟨ret_bool (by first | rfl | (simp; done) | (simp; omega)), rfl⟩
  · obtain rfl : q = false := by cases q; rfl; have := hv.1 rfl; omega
    obtain ⟨h1, h2⟩ := h
    clear hv
    go_enter Tryd.func97, Tryd.ntmps97
    go_wp2
    go_ret
    exact ⟨ret_bool (by first | rfl | (simp; done) | (simp; omega)), rfl⟩
  · obtain rfl : q = true := hv.2 (by omega)
    obtain ⟨h1, h2⟩ := h
    clear hv
    go_enter Tryd.func97, Tryd.ntmps97
    go_wp2
    go_ret
    exact ⟨ret_bool (by first | rfl | (simp; done) | (simp; omega)), rfl⟩
  · obtain rfl : q = false := by cases q; rfl; have := hv.1 rfl; omega
    clear hv
    go_enter Tryd.func97, Tryd.ntmps97
    go_wp2
    go_ret
    exact ⟨ret_bool (by first | rfl | (simp; done) | (simp; omega)), rfl⟩

theorem percent_l (r : List UInt8) (w : World) (hl : r.length ≤ maxLen) : Calls Tryd.prog 52 #[.string (B r)] w fun e w' => e = .returned (.bool (percB r)) ∧ w' = w := by
  unfold maxLen at hl
  have HEX := Lib.hid hex_any
  by_cases h3 : r.length < 3
  · have HE := Lib.hid (percB_short h3)
    go_enter Tryd.func52, Tryd.ntmps52
    go_wp2_with fail
    go_ret
    exact ⟨ret_bool HE.out.symm, rfl⟩
  have h3' : 3 ≤ r.length := by omega
  have hw := percB_at h3'
  obtain ⟨a, ha0⟩ : ∃ a, r[0] = a := ⟨_, rfl⟩
  obtain ⟨b, hb0⟩ : ∃ b, r[1] = b := ⟨_, rfl⟩
  obtain ⟨c, hc0⟩ : ∃ c, r[2] = c := ⟨_, rfl⟩
  rw [ha0, hb0, hc0] at hw
  have hi0 : 0 < r.length := by omega
  have hi1 : 1 < r.length := by omega
  have hi2 : 2 < r.length := by omega
  by_cases ha : a = 37
  · have e1 : ((a.toNat : Int) == 37) = true := byte_eq ha
    rw [decide_eq_true ha, Bool.true_and] at hw
    clear ha
    cases hb : hexB (b.toNat : Int) with
    | false =>
      have HE : Hid (percB r = false) := Lib.hid (by rw [hw, hb]; rfl)
      clear hw
      go_enter Tryd.func52, Tryd.ntmps52
      go_wp2_with (go_at_call 95; refine (HEX.out _ _).mono ?_; rintro e w1 ⟨rfl, rfl⟩)
      go_ret
      exact ⟨ret_bool HE.out.symm, rfl⟩
    | true =>
      have HE : Hid (percB r = hexB (c.toNat : Int)) := Lib.hid (by rw [hw, hb]; rfl)
      clear hw
      go_enter Tryd.func52, Tryd.ntmps52
      go_wp2_with (go_at_call 95; refine (HEX.out _ _).mono ?_; rintro e w1 ⟨rfl, rfl⟩)
      go_ret
      exact ⟨ret_bool HE.out.symm, rfl⟩
  · have e1 : ((a.toNat : Int) == 37) = false := byte_ne ha
    have HE : Hid (percB r = false) := Lib.hid (by rw [hw, decide_eq_false ha]; rfl)
    clear hw ha
    go_enter Tryd.func52, Tryd.ntmps52
    go_wp2_with fail
    go_ret
    exact ⟨ret_bool HE.out.symm, rfl⟩

theorem refPercent_l (l : List UInt8) (i : Nat) (w : World) (hl : l.length ≤ 4611686018427387904) (hi : i ≤ l.length) :
    Calls Tryd.prog 55 #[.string (B l), .int .i64 (i : Int)] w fun e w' => e = .returned (.bool (percB (l.drop i))) ∧ w' = w := by
  have HEX := Lib.hid refHex_any
  by_cases h3 : l.length ≤ i + 2
  · have HE := Lib.hid (percB_short (r := l.drop i) (by simp; omega))
    go_enter Tryd.func55, Tryd.ntmps55
    go_wp2_with fail
    go_ret
    exact ⟨ret_bool HE.out.symm, rfl⟩
  have h3' : i + 2 < l.length := by omega
  have hw := percB_at (r := l.drop i) (by simp; omega)
  simp only [List.getElem_drop, Nat.add_zero] at hw
  obtain ⟨a, ha0⟩ : ∃ a, l[i] = a := ⟨_, rfl⟩
  obtain ⟨b, hb0⟩ : ∃ b, l[i + 1] = b := ⟨_, rfl⟩
  obtain ⟨c, hc0⟩ : ∃ c, l[i + 2] = c := ⟨_, rfl⟩
  rw [ha0, hb0, hc0] at hw
  have hi1 : i < l.length := by omega
  have hi2 : i + 1 < l.length := by omega
  by_cases ha : a = 37
  · have e1 : ((a.toNat : Int) == 37) = true := byte_eq ha
    rw [decide_eq_true ha, Bool.true_and] at hw
    clear ha
    cases hb : hexB (b.toNat : Int) with
    | false =>
      have HE : Hid (percB (l.drop i) = false) := Lib.hid (by rw [hw, hb]; rfl)
      clear hw
      go_enter Tryd.func55, Tryd.ntmps55
      go_wp2_with (go_at_call 97; refine (HEX.out _ _).mono ?_; rintro e w1 ⟨rfl, rfl⟩)
      go_ret
      exact ⟨ret_bool HE.out.symm, rfl⟩
    | true =>
      have HE : Hid (percB (l.drop i) = hexB (c.toNat : Int)) := Lib.hid (by rw [hw, hb]; rfl)
      clear hw
      go_enter Tryd.func55, Tryd.ntmps55
      go_wp2_with (go_at_call 97; refine (HEX.out _ _).mono ?_; rintro e w1 ⟨rfl, rfl⟩)
      go_ret
      exact ⟨ret_bool HE.out.symm, rfl⟩
  · have e1 : ((a.toNat : Int) == 37) = false := byte_ne ha
    have HE : Hid (percB (l.drop i) = false) := Lib.hid (by rw [hw, decide_eq_false ha]; rfl)
    clear hw ha
    go_enter Tryd.func55, Tryd.ntmps55
    go_wp2_with fail
    go_ret
    exact ⟨ret_bool HE.out.symm, rfl⟩
end Go.Proofs.YtfjcbodkjjmagaaDoor
