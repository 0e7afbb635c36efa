/-
  The pieces of a local name: contracts of the small functions. By an AI agent.
  Which scalars of a local name stand as they are, which are escaped: contracts. By an AI agent.
-/
import Derived.Test.YtdhmpakhdhdebaaGreatDoorShelf
import Derived.Test.YtdhmpakhdhdebaaGreatDoorZRefChars
namespace Go.Proofs.YtdhmpakhdhdebaaGreatDoor
open Go.Lib (hid)
open Go.RowKit
set_option maxRecDepth 100000
set_option maxHeartbeats 800000 in
theorem hex_any (c : UInt8) (w : World) : Calls Tryz.prog 173 #[.int .u8 (c.toNat : Int)] w fun e w' => e = .returned (.bool (hexB (c.toNat : Int))) /\ w' = w := by
 obtain ⟨x, hx⟩ : ∃ x : Int, (c.toNat : Int) = x := ⟨_, rfl⟩
 rw [hx]
 clear hx
 have hc : x < 48 \/ (48 <= x /\ x <= 57) \/ (58 <= x /\ x <= 64) \/ (65 <= x /\ x <= 70) \/ (71 <= x /\ x <= 96) \/ (97 <= x /\ x <= 102) \/ 103 <= x := by omega
 obtain ⟨q, hq⟩ : ∃ q, hexB x = q := ⟨_, rfl⟩
 have hv : (q = true ↔ ((48 <= x /\ x <= 57) \/ (97 <= x /\ x <= 102) \/ (65 <= x /\ x <= 70))) := by rw [<- hq]; unfold hexB; simp [or_assoc]
 rw [hq]
 clear hq
 rcases hc with h | h | h | h | h | h | h
 ·obtain rfl : q = false := by cases q; rfl; have := hv.1 rfl; omega
  clear hv
  go_enter Tryz.func173, Tryz.ntmps173
  go_wp2
  go_ret
  exact ⟨ret_bool (by first | rfl | (simp; done) | (simp; omega)), rfl⟩
 ·obtain rfl : q = true := hv.2 (by omega)
  obtain ⟨h1, h2⟩ := h
  clear hv
  go_enter Tryz.func173, Tryz.ntmps173
  go_wp2
  go_ret
  exact ⟨ret_bool (by first | rfl | (simp; done) | (simp; omega)), rfl⟩
 ·obtain rfl : q = false := by cases q; rfl; have := hv.1 rfl; omega
  obtain ⟨h1, h2⟩ := h
  clear hv
  go_enter Tryz.func173, Tryz.ntmps173
  go_wp2
  go_ret
  exact ⟨ret_bool (by first | rfl | (simp; done) | (simp; omega)), rfl⟩
 ·obtain rfl : q = true := hv.2 (by omega)
  obtain ⟨h1, h2⟩ := h
  clear hv
  go_enter Tryz.func173, Tryz.ntmps173
  go_wp2
  go_ret
  exact ⟨ret_bool (by first | rfl | (simp; done) | (simp; omega)), rfl⟩
 ·obtain rfl : q = false := by cases q; rfl; have := hv.1 rfl; omega
  obtain ⟨h1, h2⟩ := h
  clear hv
  go_enter Tryz.func173, Tryz.ntmps173
  go_wp2
  go_ret
  exact ⟨ret_bool (by first | rfl | (simp; done) | (simp; omega)), rfl⟩
 ·obtain rfl : q = true := hv.2 (by omega)
  obtain ⟨h1, h2⟩ := h
  clear hv
  go_enter Tryz.func173, Tryz.ntmps173
  go_wp2
  go_ret
  exact ⟨ret_bool (by first | rfl | (simp; done) | (simp; omega)), rfl⟩
 ·obtain rfl : q = false := by cases q; rfl; have := hv.1 rfl; omega
  clear hv
  go_enter Tryz.func173, Tryz.ntmps173
  go_wp2
  go_ret
  exact ⟨ret_bool (by first | rfl | (simp; done) | (simp; omega)), rfl⟩
set_option maxHeartbeats 800000 in
theorem refHex_any (c : UInt8) (w : World) : Calls Tryz.prog 181 #[.int .u8 (c.toNat : Int)] w fun e w' => e = .returned (.bool (hexB (c.toNat : Int))) /\ w' = w := by
 obtain ⟨x, hx⟩ : ∃ x : Int, (c.toNat : Int) = x := ⟨_, rfl⟩
 rw [hx]
 clear hx
 have hc : x < 48 \/ (48 <= x /\ x <= 57) \/ (58 <= x /\ x <= 64) \/ (65 <= x /\ x <= 70) \/ (71 <= x /\ x <= 96) \/ (97 <= x /\ x <= 102) \/ 103 <= x := by omega
 obtain ⟨q, hq⟩ : ∃ q, hexB x = q := ⟨_, rfl⟩
 have hv : (q = true ↔ ((48 <= x /\ x <= 57) \/ (97 <= x /\ x <= 102) \/ (65 <= x /\ x <= 70))) := by rw [<- hq]; unfold hexB; simp [or_assoc]
 rw [hq]
 clear hq
 rcases hc with h | h | h | h | h | h | h
 ·obtain rfl : q = false := by cases q; rfl; have := hv.1 rfl; omega
  clear hv
  go_enter Tryz.func181, Tryz.ntmps181
  go_wp2
  go_ret
  exact ⟨ret_bool (by first | rfl | (simp; done) | (simp; omega)), rfl⟩
 ·obtain rfl : q = true := hv.2 (by omega)
  obtain ⟨h1, h2⟩ := h
  clear hv
  go_enter Tryz.func181, Tryz.ntmps181
  go_wp2
  go_ret
  exact ⟨ret_bool (by first | rfl | (simp; done) | (simp; omega)), rfl⟩
 ·obtain rfl : q = false := by cases q; rfl; have := hv.1 rfl; omega
  obtain ⟨h1, h2⟩ := h
  clear hv
  go_enter Tryz.func181, Tryz.ntmps181
  go_wp2
  go_ret
  exact ⟨ret_bool (by first | rfl | (simp; done) | (simp; omega)), rfl⟩
 ·obtain rfl : q = true := hv.2 (by omega)
  obtain ⟨h1, h2⟩ := h
  clear hv
  go_enter Tryz.func181, Tryz.ntmps181
  go_wp2
  go_ret
  exact ⟨ret_bool (by first | rfl | (simp; done) | (simp; omega)), rfl⟩
 ·obtain rfl : q = false := by cases q; rfl; have := hv.1 rfl; omega
  obtain ⟨h1, h2⟩ := h
  clear hv
  go_enter Tryz.func181, Tryz.ntmps181
  go_wp2
  go_ret
  exact ⟨ret_bool (by first | rfl | (simp; done) | (simp; omega)), rfl⟩
 ·obtain rfl : q = true := hv.2 (by omega)
  obtain ⟨h1, h2⟩ := h
  clear hv
  go_enter Tryz.func181, Tryz.ntmps181
  go_wp2
  go_ret
  exact ⟨ret_bool (by first | rfl | (simp; done) | (simp; omega)), rfl⟩
 ·obtain rfl : q = false := by cases q; rfl; have := hv.1 rfl; omega
  clear hv
  go_enter Tryz.func181, Tryz.ntmps181
  go_wp2
  go_ret
  exact ⟨ret_bool (by first | rfl | (simp; done) | (simp; omega)), rfl⟩
theorem percent_l (r : List UInt8) (w : World) (hl : r.length <= maxLen) : Calls Tryz.prog 120 #[.string (B r)] w fun e w' => e = .returned (.bool (percB r)) /\ w' = w := by
 unfold maxLen at hl
 have HEX := hid hex_any
 by_cases h3 : r.length < 3
 ·have HE := hid (percB_short h3)
  go_enter Tryz.func120, Tryz.ntmps120
  go_wp2_with fail
  go_ret
  exact ⟨ret_bool HE.out.symm, rfl⟩
 have h3' : 3 <= r.length := by omega
 have hw := percB_at h3'
 obtain ⟨a, ha0⟩ : ∃ a, r[0] = a := ⟨_, rfl⟩
 obtain ⟨b, hb0⟩ : ∃ b, r[1] = b := ⟨_, rfl⟩
 obtain ⟨c, hc0⟩ : ∃ c, r[2] = c := ⟨_, rfl⟩
 rw [ha0, hb0, hc0] at hw
 have hi0 : 0 < r.length := by omega
 have hi1 : 1 < r.length := by omega
 have hi2 : 2 < r.length := by omega
 by_cases ha : a = 37
 ·have e1 : ((a.toNat : Int) == 37) = true := byte_eq ha
  rw [decide_eq_true ha, Bool.true_and] at hw
  clear ha
  cases hb : hexB (b.toNat : Int) with
  | false =>
   have HE : Hid (percB r = false) := hid (by rw [hw, hb]; rfl)
   clear hw
   go_enter Tryz.func120, Tryz.ntmps120
   go_wp2_with (go_at_call 173; refine (HEX.out _ _).mono ?_; rintro e w1 ⟨rfl, rfl⟩)
   go_ret
   exact ⟨ret_bool HE.out.symm, rfl⟩
  | true =>
   have HE : Hid (percB r = hexB (c.toNat : Int)) := hid (by rw [hw, hb]; rfl)
   clear hw
   go_enter Tryz.func120, Tryz.ntmps120
   go_wp2_with (go_at_call 173; refine (HEX.out _ _).mono ?_; rintro e w1 ⟨rfl, rfl⟩)
   go_ret
   exact ⟨ret_bool HE.out.symm, rfl⟩
 ·have e1 : ((a.toNat : Int) == 37) = false := byte_ne ha
  have HE : Hid (percB r = false) := hid (by rw [hw, decide_eq_false ha]; rfl)
  clear hw ha
  go_enter Tryz.func120, Tryz.ntmps120
  go_wp2_with fail
  go_ret
  exact ⟨ret_bool HE.out.symm, rfl⟩
theorem refPercent_l (l : List UInt8) (i : Nat) (w : World) (hl : l.length <= 4611686018427387904) (hi : i <= l.length) :
  Calls Tryz.prog 127 #[.string (B l), .int .i64 (i : Int)] w fun e w' => e = .returned (.bool (percB (l.drop i))) /\ w' = w := by
 have HEX := hid refHex_any
 by_cases h3 : l.length <= i + 2
 ·have HE := hid (percB_short (r := l.drop i) (by simp; omega))
  go_enter Tryz.func127, Tryz.ntmps127
  go_wp2_with fail
  go_ret
  exact ⟨ret_bool HE.out.symm, rfl⟩
 have h3' : i + 2 < l.length := by omega
 have hw := percB_at (r := l.drop i) (by simp; omega)
 simp only [List.getElem_drop, Nat.add_zero] at hw
 obtain ⟨a, ha0⟩ : ∃ a, l[i] = a := ⟨_, rfl⟩
 obtain ⟨b, hb0⟩ : ∃ b, l[i + 1] = b := ⟨_, rfl⟩
 obtain ⟨c, hc0⟩ : ∃ c, l[i + 2] = c := ⟨_, rfl⟩
 rw [ha0, hb0, hc0] at hw
 have hi1 : i < l.length := by omega
 have hi2 : i + 1 < l.length := by omega
 by_cases ha : a = 37
 ·have e1 : ((a.toNat : Int) == 37) = true := byte_eq ha
  rw [decide_eq_true ha, Bool.true_and] at hw
  clear ha
  cases hb : hexB (b.toNat : Int) with
  | false =>
   have HE : Hid (percB (l.drop i) = false) := hid (by rw [hw, hb]; rfl)
   clear hw
   go_enter Tryz.func127, Tryz.ntmps127
   go_wp2_with (go_at_call 181; refine (HEX.out _ _).mono ?_; rintro e w1 ⟨rfl, rfl⟩)
   go_ret
   exact ⟨ret_bool HE.out.symm, rfl⟩
  | true =>
   have HE : Hid (percB (l.drop i) = hexB (c.toNat : Int)) := hid (by rw [hw, hb]; rfl)
   clear hw
   go_enter Tryz.func127, Tryz.ntmps127
   go_wp2_with (go_at_call 181; refine (HEX.out _ _).mono ?_; rintro e w1 ⟨rfl, rfl⟩)
   go_ret
   exact ⟨ret_bool HE.out.symm, rfl⟩
 ·have e1 : ((a.toNat : Int) == 37) = false := byte_ne ha
  have HE : Hid (percB (l.drop i) = false) := hid (by rw [hw, decide_eq_false ha]; rfl)
  clear hw ha
  go_enter Tryz.func127, Tryz.ntmps127
  go_wp2_with fail
  go_ret
  exact ⟨ret_bool HE.out.symm, rfl⟩
end Go.Proofs.YtdhmpakhdhdebaaGreatDoor
namespace Go.Proofs.YtdhmpakhdhdebaaGreatDoor
open Go.Lib (hid)
open Go.RowKit
set_option maxRecDepth 100000
theorem stands58 (f l : Bool) : standsB 58 f l = true := by unfold standsB; rfl
theorem stands_first {r : Int} (h : r ≠ 58) (l : Bool) : standsB r true l = (startB r || digitB r) := by unfold standsB; rw [decide_eq_false h, Bool.false_or]
theorem stands_last {r : Int} (h : r ≠ 58) : standsB r false true = followB r := by unfold standsB; rw [decide_eq_false h, Bool.false_or]
theorem stands_mid {r : Int} (h : r ≠ 58) : standsB r false false = (followB r || decide (r = 46)) := by unfold standsB; rw [decide_eq_false h, Bool.false_or]
set_option maxHeartbeats 800000 in
theorem stands_any (r : Int) (f l : Bool) (w : World) (hT : TabAt w) : Calls Tryz.prog 119 #[.int .i32 r, .bool f, .bool l] w fun e w' => e = .returned (.bool (standsB r f l)) /\ w' = w := by
 have ST := hid (fun r => start_any r w hT); have DIG := hid digit_any; have FOL := hid (fun r => follow_any r w hT)
 clear hT
 by_cases h58 : r = 58
 ·subst h58
  have HE := hid (stands58 f l)
  go_enter Tryz.func119, Tryz.ntmps119
  go_wp2_with (first | (go_at_call 170; refine (ST.out r).mono ?_; rintro e w1 ⟨rfl, rfl⟩) | (go_at_call 171; refine (DIG.out r _).mono ?_; rintro e w1 ⟨rfl, rfl⟩) | (go_at_call 172; refine (FOL.out r).mono ?_; rintro e w1 ⟨rfl, rfl⟩))
  go_ret
  exact ⟨ret_bool HE.out.symm, rfl⟩
 have e58 : (r == 58) = false := beq_eq_false_iff_ne.2 h58
 cases f with
 | true =>
  cases hs : startB r with
  | true =>
   have HE : Hid (standsB r true l = true) := hid (by rw [stands_first h58, hs]; rfl)
   clear h58
   go_enter Tryz.func119, Tryz.ntmps119
   go_wp2_with (first | (go_at_call 170; refine (ST.out r).mono ?_; rintro e w1 ⟨rfl, rfl⟩) | (go_at_call 171; refine (DIG.out r _).mono ?_; rintro e w1 ⟨rfl, rfl⟩) | (go_at_call 172; refine (FOL.out r).mono ?_; rintro e w1 ⟨rfl, rfl⟩))
   go_ret
   exact ⟨ret_bool HE.out.symm, rfl⟩
  | false =>
   have HE : Hid (standsB r true l = digitB r) := hid (by rw [stands_first h58, hs]; rfl)
   clear h58
   go_enter Tryz.func119, Tryz.ntmps119
   go_wp2_with (first | (go_at_call 170; refine (ST.out r).mono ?_; rintro e w1 ⟨rfl, rfl⟩) | (go_at_call 171; refine (DIG.out r _).mono ?_; rintro e w1 ⟨rfl, rfl⟩) | (go_at_call 172; refine (FOL.out r).mono ?_; rintro e w1 ⟨rfl, rfl⟩))
   go_ret
   exact ⟨ret_bool HE.out.symm, rfl⟩
 | false =>
  cases l with
  | true =>
   have HE : Hid (standsB r false true = followB r) := hid (stands_last h58)
   clear h58
   go_enter Tryz.func119, Tryz.ntmps119
   go_wp2_with (first | (go_at_call 170; refine (ST.out r).mono ?_; rintro e w1 ⟨rfl, rfl⟩) | (go_at_call 171; refine (DIG.out r _).mono ?_; rintro e w1 ⟨rfl, rfl⟩) | (go_at_call 172; refine (FOL.out r).mono ?_; rintro e w1 ⟨rfl, rfl⟩))
   go_ret
   exact ⟨ret_bool HE.out.symm, rfl⟩
  | false =>
   cases hf : followB r with
   | true =>
    have HE : Hid (standsB r false false = true) := hid (by rw [stands_mid h58, hf]; rfl)
    clear h58
    go_enter Tryz.func119, Tryz.ntmps119
    go_wp2_with (first | (go_at_call 170; refine (ST.out r).mono ?_; rintro e w1 ⟨rfl, rfl⟩) | (go_at_call 171; refine (DIG.out r _).mono ?_; rintro e w1 ⟨rfl, rfl⟩) | (go_at_call 172; refine (FOL.out r).mono ?_; rintro e w1 ⟨rfl, rfl⟩))
    go_ret
    exact ⟨ret_bool HE.out.symm, rfl⟩
   | false =>
    have HE : Hid (standsB r false false = (r == 46)) := hid (by rw [stands_mid h58, hf, Bool.false_or]; exact (Bool.beq_eq_decide_eq _ _).symm)
    clear h58
    go_enter Tryz.func119, Tryz.ntmps119
    go_wp2_with (first | (go_at_call 170; refine (ST.out r).mono ?_; rintro e w1 ⟨rfl, rfl⟩) | (go_at_call 171; refine (DIG.out r _).mono ?_; rintro e w1 ⟨rfl, rfl⟩) | (go_at_call 172; refine (FOL.out r).mono ?_; rintro e w1 ⟨rfl, rfl⟩))
    go_ret
    exact ⟨ret_bool HE.out.symm, rfl⟩
set_option maxHeartbeats 800000 in
theorem may_any (r : Int) (f l : Bool) (w : World) : Calls Tryz.prog 128 #[.int .i64 r, .bool f, .bool l] w fun e w' => e = .returned (.bool (standsB r f l)) /\ Below w.heap.size w w' := by
 have ST := hid refStart_any; have DIG := hid refDigit_any; have FOL := hid refFollow_any
 by_cases h58 : r = 58
 ·have HE : Hid (standsB r f l = true) := hid (by rw [h58]; exact stands58 f l)
  have b1 : startB r = false := by rw [h58]; decide
  have b2 : followB r = false := by rw [h58]; decide
  have e58 : (r == 58) = true := beq_iff_eq.2 h58
  clear h58
  cases f with
  | true =>
   go_enter Tryz.func128, Tryz.ntmps128
   go_wp2_with (first | (go_at_call 182; refine (ST.out r _).mono ?_; rintro e w1 ⟨rfl, hb⟩) | (go_at_call 183; refine (DIG.out r _).mono ?_; rintro e w2 ⟨rfl, rfl⟩) | (go_at_call 184; refine (FOL.out r _).mono ?_; rintro e w1 ⟨rfl, hb⟩))
   go_ret
   exact ⟨ret_bool HE.out.symm, hb⟩
  | false =>
   cases l with
   | true =>
    go_enter Tryz.func128, Tryz.ntmps128
    go_wp2_with (first | (go_at_call 182; refine (ST.out r _).mono ?_; rintro e w1 ⟨rfl, hb⟩) | (go_at_call 183; refine (DIG.out r _).mono ?_; rintro e w2 ⟨rfl, rfl⟩) | (go_at_call 184; refine (FOL.out r _).mono ?_; rintro e w1 ⟨rfl, hb⟩))
    go_ret
    exact ⟨ret_bool HE.out.symm, hb⟩
   | false =>
    go_enter Tryz.func128, Tryz.ntmps128
    go_wp2_with (first | (go_at_call 182; refine (ST.out r _).mono ?_; rintro e w1 ⟨rfl, hb⟩) | (go_at_call 183; refine (DIG.out r _).mono ?_; rintro e w2 ⟨rfl, rfl⟩) | (go_at_call 184; refine (FOL.out r _).mono ?_; rintro e w1 ⟨rfl, hb⟩))
    go_ret
    exact ⟨ret_bool HE.out.symm, hb⟩
 have e58 : (r == 58) = false := beq_eq_false_iff_ne.2 h58
 cases f with
 | true =>
  cases hs : startB r with
  | true =>
   have HE : Hid (standsB r true l = true) := hid (by rw [stands_first h58, hs]; rfl)
   clear h58
   go_enter Tryz.func128, Tryz.ntmps128
   go_wp2_with (first | (go_at_call 182; refine (ST.out r _).mono ?_; rintro e w1 ⟨rfl, hb⟩) | (go_at_call 183; refine (DIG.out r _).mono ?_; rintro e w2 ⟨rfl, rfl⟩) | (go_at_call 184; refine (FOL.out r _).mono ?_; rintro e w1 ⟨rfl, hb⟩))
   go_ret
   exact ⟨ret_bool HE.out.symm, hb⟩
  | false =>
   have HE : Hid (standsB r true l = digitB r) := hid (by rw [stands_first h58, hs]; rfl)
   clear h58
   go_enter Tryz.func128, Tryz.ntmps128
   go_wp2_with (first | (go_at_call 182; refine (ST.out r _).mono ?_; rintro e w1 ⟨rfl, hb⟩) | (go_at_call 183; refine (DIG.out r _).mono ?_; rintro e w2 ⟨rfl, rfl⟩) | (go_at_call 184; refine (FOL.out r _).mono ?_; rintro e w1 ⟨rfl, hb⟩))
   go_ret
   exact ⟨ret_bool HE.out.symm, hb⟩
 | false =>
  cases l with
  | true =>
   cases hf : followB r with
   | true =>
    have HE : Hid (standsB r false true = true) := hid (by rw [stands_last h58, hf])
    clear h58
    go_enter Tryz.func128, Tryz.ntmps128
    go_wp2_with (first | (go_at_call 182; refine (ST.out r _).mono ?_; rintro e w1 ⟨rfl, hb⟩) | (go_at_call 183; refine (DIG.out r _).mono ?_; rintro e w2 ⟨rfl, rfl⟩) | (go_at_call 184; refine (FOL.out r _).mono ?_; rintro e w1 ⟨rfl, hb⟩))
    go_ret
    exact ⟨ret_bool HE.out.symm, hb⟩
   | false =>
    have HE : Hid (standsB r false true = false) := hid (by rw [stands_last h58, hf])
    clear h58
    go_enter Tryz.func128, Tryz.ntmps128
    go_wp2_with (first | (go_at_call 182; refine (ST.out r _).mono ?_; rintro e w1 ⟨rfl, hb⟩) | (go_at_call 183; refine (DIG.out r _).mono ?_; rintro e w2 ⟨rfl, rfl⟩) | (go_at_call 184; refine (FOL.out r _).mono ?_; rintro e w1 ⟨rfl, hb⟩))
    go_ret
    exact ⟨ret_bool HE.out.symm, hb⟩
  | false =>
   cases hf : followB r with
   | true =>
    have HE : Hid (standsB r false false = true) := hid (by rw [stands_mid h58, hf]; rfl)
    clear h58
    go_enter Tryz.func128, Tryz.ntmps128
    go_wp2_with (first | (go_at_call 182; refine (ST.out r _).mono ?_; rintro e w1 ⟨rfl, hb⟩) | (go_at_call 183; refine (DIG.out r _).mono ?_; rintro e w2 ⟨rfl, rfl⟩) | (go_at_call 184; refine (FOL.out r _).mono ?_; rintro e w1 ⟨rfl, hb⟩))
    go_ret
    exact ⟨ret_bool HE.out.symm, hb⟩
   | false =>
    have HE : Hid (standsB r false false = (r == 46)) := hid (by rw [stands_mid h58, hf, Bool.false_or]; exact (Bool.beq_eq_decide_eq _ _).symm)
    clear h58
    go_enter Tryz.func128, Tryz.ntmps128
    go_wp2_with (first | (go_at_call 182; refine (ST.out r _).mono ?_; rintro e w1 ⟨rfl, hb⟩) | (go_at_call 183; refine (DIG.out r _).mono ?_; rintro e w2 ⟨rfl, rfl⟩) | (go_at_call 184; refine (FOL.out r _).mono ?_; rintro e w1 ⟨rfl, hb⟩))
    go_ret
    exact ⟨ret_bool HE.out.symm, hb⟩
def escIx (r : Int) : Int := Lib.indexByte escs r.toNat.toUInt8
theorem escIx_ok (r : Int) (h0 : 0 <= r) (h1 : r < 128) : decide (0 <= escIx r) = escB r := by
 have h : ∀ n < 128, decide (0 <= escIx ((n : Nat) : Int)) = escB ((n : Nat) : Int) := by decide +kernel
 obtain ⟨n, rfl⟩ := Int.eq_ofNat_of_zero_le h0
 exact h n (by omega)
theorem escB_low (r : Int) (h : escB r = true) : 0 <= r /\ r < 128 := by
 unfold escB at h
 obtain ⟨c, hc, he⟩ := List.any_eq_true.1 h
 have : ∀ c ∈ escs, c.toNat < 128 := by decide
 have := this c hc
 have := beq_iff_eq.1 he
 omega
theorem indexByte_esc (r : Int) (w : World) : Calls Tryz.prog 72 #[.string (B escs), .int .u8 r] w fun e w' => e = .returned (.int .i64 (escIx r)) /\ w' = w := by
 have h := Tryz.strings_IndexByte (B escs) r w
 rw [B_toList] at h
 exact h
set_option maxHeartbeats 800000 in
theorem escapable_any (r : Int) (w : World) : Calls Tryz.prog 129 #[.int .i64 r] w fun e w' => e = .returned (.bool (escB r)) /\ w' = w := by
 have hix : ∀ (k : Nat) (hk : k < escs.length) (w : World), (Instr.index 9 (.string ⟨#[95, 126, 46, 45, 33, 36, 38, 39, 40, 41, 42, 43, 44, 59, 61, 47, 63, 35, 64, 37]⟩) (.int .i64 (k : Int))).run Tryz.prog w = .ok (.int .u8 (escs[k].toNat : Int)) w := by
  intro k hk w
  have h := run_index_string (P := Tryz.prog) (w := w) 9 (B escs) .i64 (k : Int) Tryz.underlying9
  rw [dif_pos ⟨by omega, by rw [B_size]; omega⟩] at h
  simp only [Int.toNat_natCast, B_get] at h
  exact h
 have HIX := hid hix
 clear hix
 go_enter Tryz.func129, Tryz.ntmps129
 go_wp2_with fail
 go_loop [3] (fun i => ∃ k : Nat, i = .int .i64 k /\ k <= 20 /\ Hid (escB r = (escs.drop k).any fun c => (c.toNat : Int) == r)) (fun i => 20 - (intOf i).toNat)
 case atStart => exact ⟨0, rfl, by omega, rfl⟩
 case round =>
  obtain ⟨k, rfl, hk, HK⟩ := hrel
  by_cases hlt : k < 20
  ·have hkl : k < escs.length := hlt
   have hi := HIX.out k hkl w
   have hd := HK.out
   rw [List.drop_eq_getElem_cons hkl, List.any_cons] at hd
   obtain ⟨c, hc⟩ : ∃ c, escs[k] = c := ⟨_, rfl⟩
   rw [hc] at hi hd
   have hcl := c.toNat_lt
   have hcl2 : (c.toNat : Int) < 256 := by omega
   have HD := hid hd
   clear hd hc HK hkl hcl
   by_cases he : (c.toNat : Int) = r
   ·have e1 : ((c.toNat : Int) == r) = true := beq_iff_eq.2 he
    have HE : Hid (escB r = true) := hid (by rw [HD.out, e1]; rfl)
    clear he HD
    go_wp2_with fail
    go_ret
    exact ⟨ret_bool HE.out.symm, rfl⟩
   ·have e1 : ((c.toNat : Int) == r) = false := beq_eq_false_iff_ne.2 he
    have HE : Hid (escB r = (escs.drop (k + 1)).any fun c => (c.toNat : Int) == r) := hid (by rw [HD.out, e1]; rfl)
    clear he HD
    go_wp2_with fail
    go_round
    case rel => exact ⟨k + 1, by go_num, by omega, HE⟩
    case measure => simp [intOf]; omega
  ·have HE : Hid (escB r = false) := hid (by rw [HK.out, show k = 20 by omega]; rfl)
   clear HK
   go_wp2_with fail
   go_ret
   exact ⟨ret_bool HE.out.symm, rfl⟩
end Go.Proofs.YtdhmpakhdhdebaaGreatDoor
