/-
  Which scalars of a local name stand as they are, which are escaped: contracts. By an AI agent.
-/
import Derived.Test.YtfjcbodkjjmagaaDoorPieces
import Derived.Test.YtfjcbodkjjmagaaDoorShelf
namespace Go.Proofs.YtfjcbodkjjmagaaDoor
open Go.RowKit
set_option maxRecDepth 100000

theorem stands58 (f l : Bool) : standsB 58 f l = true := by unfold standsB; rfl
theorem stands_first {r : Int} (h : r ≠ 58) (l : Bool) : standsB r true l = (startB r || digitB r) := by unfold standsB; rw [decide_eq_false h, Bool.false_or]
theorem stands_last {r : Int} (h : r ≠ 58) : standsB r false true = followB r := by unfold standsB; rw [decide_eq_false h, Bool.false_or]
theorem stands_mid {r : Int} (h : r ≠ 58) : standsB r false false = (followB r || decide (r = 46)) := by unfold standsB; rw [decide_eq_false h, Bool.false_or]

set_option maxHeartbeats 800000 in
theorem stands_any (r : Int) (f l : Bool) (w : World) (hT : TabAt w) : Calls Tryd.prog 50 #[.int .i32 r, .bool f, .bool l] w fun e w' => e = .returned (.bool (standsB r f l)) ∧ w' = w := by
  have ST := Lib.hid (fun r => start_any r w hT); have DIG := Lib.hid digit_any; have FOL := Lib.hid (fun r => follow_any r w hT)
  clear hT
  by_cases h58 : r = 58
  · subst h58
    have HE := Lib.hid (stands58 f l)
    go_enter Tryd.func50, Tryd.ntmps50
    go_wp2_with (first | (go_at_call 86; refine (ST.out r).mono ?_; rintro e w1 ⟨rfl, rfl⟩) | (go_at_call 87; refine (DIG.out r _).mono ?_; rintro e w1 ⟨rfl, rfl⟩) | (go_at_call 85; refine (FOL.out r).mono ?_; rintro e w1 ⟨rfl, rfl⟩))
    go_ret
    exact ⟨ret_bool HE.out.symm, rfl⟩
  have e58 : (r == 58) = false := beq_eq_false_iff_ne.2 h58
  cases f with
  | true =>
    cases hs : startB r with
    | true =>
      have HE : Hid (standsB r true l = true) := Lib.hid (by rw [stands_first h58, hs]; rfl)
      clear h58
      go_enter Tryd.func50, Tryd.ntmps50
      go_wp2_with (first | (go_at_call 86; refine (ST.out r).mono ?_; rintro e w1 ⟨rfl, rfl⟩) | (go_at_call 87; refine (DIG.out r _).mono ?_; rintro e w1 ⟨rfl, rfl⟩) | (go_at_call 85; refine (FOL.out r).mono ?_; rintro e w1 ⟨rfl, rfl⟩))
      go_ret
      exact ⟨ret_bool HE.out.symm, rfl⟩
    | false =>
      have HE : Hid (standsB r true l = digitB r) := Lib.hid (by rw [stands_first h58, hs]; rfl)
      clear h58
      go_enter Tryd.func50, Tryd.ntmps50
      go_wp2_with (first | (go_at_call 86; refine (ST.out r).mono ?_; rintro e w1 ⟨rfl, rfl⟩) | (go_at_call 87; refine (DIG.out r _).mono ?_; rintro e w1 ⟨rfl, rfl⟩) | (go_at_call 85; refine (FOL.out r).mono ?_; rintro e w1 ⟨rfl, rfl⟩))
      go_ret
      exact ⟨ret_bool HE.out.symm, rfl⟩
  | false =>
    cases l with
    | true =>
      have HE : Hid (standsB r false true = followB r) := Lib.hid (stands_last h58)
      clear h58
      go_enter Tryd.func50, Tryd.ntmps50
      go_wp2_with (first | (go_at_call 86; refine (ST.out r).mono ?_; rintro e w1 ⟨rfl, rfl⟩) | (go_at_call 87; refine (DIG.out r _).mono ?_; rintro e w1 ⟨rfl, rfl⟩) | (go_at_call 85; refine (FOL.out r).mono ?_; rintro e w1 ⟨rfl, rfl⟩))
      go_ret
      exact ⟨ret_bool HE.out.symm, rfl⟩
    | false =>
      cases hf : followB r with
      | true =>
        have HE : Hid (standsB r false false = true) := Lib.hid (by rw [stands_mid h58, hf]; rfl)
        clear h58
        go_enter Tryd.func50, Tryd.ntmps50
        go_wp2_with (first | (go_at_call 86; refine (ST.out r).mono ?_; rintro e w1 ⟨rfl, rfl⟩) | (go_at_call 87; refine (DIG.out r _).mono ?_; rintro e w1 ⟨rfl, rfl⟩) | (go_at_call 85; refine (FOL.out r).mono ?_; rintro e w1 ⟨rfl, rfl⟩))
        go_ret
        exact ⟨ret_bool HE.out.symm, rfl⟩
      | false =>
        have HE : Hid (standsB r false false = (r == 46)) := Lib.hid (by rw [stands_mid h58, hf, Bool.false_or]; exact (Bool.beq_eq_decide_eq _ _).symm)
        clear h58
        go_enter Tryd.func50, Tryd.ntmps50
        go_wp2_with (first | (go_at_call 86; refine (ST.out r).mono ?_; rintro e w1 ⟨rfl, rfl⟩) | (go_at_call 87; refine (DIG.out r _).mono ?_; rintro e w1 ⟨rfl, rfl⟩) | (go_at_call 85; refine (FOL.out r).mono ?_; rintro e w1 ⟨rfl, rfl⟩))
        go_ret
        exact ⟨ret_bool HE.out.symm, rfl⟩

set_option maxHeartbeats 800000 in
theorem may_any (r : Int) (f l : Bool) (w : World) : Calls Tryd.prog 56 #[.int .i64 r, .bool f, .bool l] w fun e w' => e = .returned (.bool (standsB r f l)) ∧ Below w.heap.size w w' := by
  have ST := Lib.hid refStart_any; have DIG := Lib.hid refDigit_any; have FOL := Lib.hid refFollow_any
  by_cases h58 : r = 58
  · have HE : Hid (standsB r f l = true) := Lib.hid (by rw [h58]; exact stands58 f l)
    have b1 : startB r = false := by rw [h58]; decide
    have b2 : followB r = false := by rw [h58]; decide
    have e58 : (r == 58) = true := beq_iff_eq.2 h58
    clear h58
    cases f with
    | true =>
      go_enter Tryd.func56, Tryd.ntmps56
      go_wp2_with (first | (go_at_call 42; refine (ST.out r _).mono ?_; rintro e w1 ⟨rfl, hb⟩) | (go_at_call 43; refine (DIG.out r _).mono ?_; rintro e w2 ⟨rfl, rfl⟩) | (go_at_call 44; refine (FOL.out r _).mono ?_; rintro e w1 ⟨rfl, hb⟩))
      go_ret
      exact ⟨ret_bool HE.out.symm, hb⟩
    | false =>
      cases l with
      | true =>
        go_enter Tryd.func56, Tryd.ntmps56
        go_wp2_with (first | (go_at_call 42; refine (ST.out r _).mono ?_; rintro e w1 ⟨rfl, hb⟩) | (go_at_call 43; refine (DIG.out r _).mono ?_; rintro e w2 ⟨rfl, rfl⟩) | (go_at_call 44; refine (FOL.out r _).mono ?_; rintro e w1 ⟨rfl, hb⟩))
        go_ret
        exact ⟨ret_bool HE.out.symm, hb⟩
      | false =>
        go_enter Tryd.func56, Tryd.ntmps56
        go_wp2_with (first | (go_at_call 42; refine (ST.out r _).mono ?_; rintro e w1 ⟨rfl, hb⟩) | (go_at_call 43; refine (DIG.out r _).mono ?_; rintro e w2 ⟨rfl, rfl⟩) | (go_at_call 44; refine (FOL.out r _).mono ?_; rintro e w1 ⟨rfl, hb⟩))
        go_ret
        exact ⟨ret_bool HE.out.symm, hb⟩
  have e58 : (r == 58) = false := beq_eq_false_iff_ne.2 h58
  cases f with
  | true =>
    cases hs : startB r with
    | true =>
      have HE : Hid (standsB r true l = true) := Lib.hid (by rw [stands_first h58, hs]; rfl)
      clear h58
      go_enter Tryd.func56, Tryd.ntmps56
      go_wp2_with (first | (go_at_call 42; refine (ST.out r _).mono ?_; rintro e w1 ⟨rfl, hb⟩) | (go_at_call 43; refine (DIG.out r _).mono ?_; rintro e w2 ⟨rfl, rfl⟩) | (go_at_call 44; refine (FOL.out r _).mono ?_; rintro e w1 ⟨rfl, hb⟩))
      go_ret
      exact ⟨ret_bool HE.out.symm, hb⟩
    | false =>
      have HE : Hid (standsB r true l = digitB r) := Lib.hid (by rw [stands_first h58, hs]; rfl)
      clear h58
      go_enter Tryd.func56, Tryd.ntmps56
      go_wp2_with (first | (go_at_call 42; refine (ST.out r _).mono ?_; rintro e w1 ⟨rfl, hb⟩) | (go_at_call 43; refine (DIG.out r _).mono ?_; rintro e w2 ⟨rfl, rfl⟩) | (go_at_call 44; refine (FOL.out r _).mono ?_; rintro e w1 ⟨rfl, hb⟩))
      go_ret
      exact ⟨ret_bool HE.out.symm, hb⟩
  | false =>
    cases l with
    | true =>
      cases hf : followB r with
      | true =>
        have HE : Hid (standsB r false true = true) := Lib.hid (by rw [stands_last h58, hf])
        clear h58
        go_enter Tryd.func56, Tryd.ntmps56
        go_wp2_with (first | (go_at_call 42; refine (ST.out r _).mono ?_; rintro e w1 ⟨rfl, hb⟩) | (go_at_call 43; refine (DIG.out r _).mono ?_; rintro e w2 ⟨rfl, rfl⟩) | (go_at_call 44; refine (FOL.out r _).mono ?_; rintro e w1 ⟨rfl, hb⟩))
        go_ret
        exact ⟨ret_bool HE.out.symm, hb⟩
      | false =>
        have HE : Hid (standsB r false true = false) := Lib.hid (by rw [stands_last h58, hf])
        clear h58
        go_enter Tryd.func56, Tryd.ntmps56
        go_wp2_with (first | (go_at_call 42; refine (ST.out r _).mono ?_; rintro e w1 ⟨rfl, hb⟩) | (go_at_call 43; refine (DIG.out r _).mono ?_; rintro e w2 ⟨rfl, rfl⟩) | (go_at_call 44; refine (FOL.out r _).mono ?_; rintro e w1 ⟨rfl, hb⟩))
        go_ret
        exact ⟨ret_bool HE.out.symm, hb⟩
    | false =>
      cases hf : followB r with
      | true =>
        have HE : Hid (standsB r false false = true) := Lib.hid (by rw [stands_mid h58, hf]; rfl)
        clear h58
        go_enter Tryd.func56, Tryd.ntmps56
        go_wp2_with (first | (go_at_call 42; refine (ST.out r _).mono ?_; rintro e w1 ⟨rfl, hb⟩) | (go_at_call 43; refine (DIG.out r _).mono ?_; rintro e w2 ⟨rfl, rfl⟩) | (go_at_call 44; refine (FOL.out r _).mono ?_; rintro e w1 ⟨rfl, hb⟩))
        go_ret
        exact ⟨ret_bool HE.out.symm, hb⟩
      | false =>
        have HE : Hid (standsB r false false = (r == 46)) := Lib.hid (by rw [stands_mid h58, hf, Bool.false_or]; exact (Bool.beq_eq_decide_eq _ _).symm)
        clear h58
        go_enter Tryd.func56, Tryd.ntmps56
        go_wp2_with (first | (go_at_call 42; refine (ST.out r _).mono ?_; rintro e w1 ⟨rfl, hb⟩) | (go_at_call 43; refine (DIG.out r _).mono ?_; rintro e w2 ⟨rfl, rfl⟩) | (go_at_call 44; refine (FOL.out r _).mono ?_; rintro e w1 ⟨rfl, hb⟩))
        go_ret
        exact ⟨ret_bool HE.out.symm, hb⟩

/-- the place of an ASCII scalar among those that are escaped; -1: it is none -/
def escIx (r : Int) : Int := Lib.indexByte escs r.toNat.toUInt8
theorem escIx_ok (r : Int) (h0 : 0 ≤ r) (h1 : r < 128) : decide (0 ≤ escIx r) = escB r := by
  have h : ∀ n < 128, decide (0 ≤ escIx ((n : Nat) : Int)) = escB ((n : Nat) : Int) := by decide +kernel
  obtain ⟨n, rfl⟩ := Int.eq_ofNat_of_zero_le h0
  exact h n (by omega)
theorem escB_low (r : Int) (h : escB r = true) : 0 ≤ r ∧ r < 128 := by
  unfold escB at h
  obtain ⟨c, hc, he⟩ := List.any_eq_true.1 h
  have : ∀ c ∈ escs, c.toNat < 128 := by decide
  have := this c hc
  have := beq_iff_eq.1 he
  omega
theorem indexByte_esc (r : Int) (w : World) : Calls Tryd.prog 53 #[.string (B escs), .int .u8 r] w fun e w' => e = .returned (.int .i64 (escIx r)) ∧ w' = w := by
  have h := Tryd.strings_IndexByte (B escs) r w
  rw [B_toList] at h
  exact h

set_option maxHeartbeats 800000 in
theorem escapable_any (r : Int) (w : World) : Calls Tryd.prog 57 #[.int .i64 r] w fun e w' => e = .returned (.bool (escB r)) ∧ w' = w := by
  have hix : ∀ (k : Nat) (hk : k < escs.length) (w : World), (Instr.index 9 (.string ⟨#[95, 126, 46, 45, 33, 36, 38, 39, 40, 41, 42, 43, 44, 59, 61, 47, 63, 35, 64, 37]⟩) (.int .i64 (k : Int))).run Tryd.prog w = .ok (.int .u8 (escs[k].toNat : Int)) w := by
    intro k hk w
    have h := run_index_string (P := Tryd.prog) (w := w) 9 (B escs) .i64 (k : Int) Tryd.underlying9
    rw [dif_pos ⟨by omega, by rw [B_size]; omega⟩] at h
    simp only [Int.toNat_natCast, B_get] at h
    exact h
  have HIX := Lib.hid hix
  clear hix
  go_enter Tryd.func57, Tryd.ntmps57
  go_wp2_with fail
  go_loop [3] (fun i => ∃ k : Nat, i = .int .i64 k ∧ k ≤ 20 ∧ Hid (escB r = (escs.drop k).any fun c => (c.toNat : Int) == r)) (fun i => 20 - (intOf i).toNat)
  case atStart => exact ⟨0, rfl, by omega, rfl⟩
  case round =>
    obtain ⟨k, rfl, hk, HK⟩ := hrel
    by_cases hlt : k < 20
    · have hkl : k < escs.length := hlt
      have hi := HIX.out k hkl w
      have hd := HK.out
      rw [List.drop_eq_getElem_cons hkl, List.any_cons] at hd
      obtain ⟨c, hc⟩ : ∃ c, escs[k] = c := ⟨_, rfl⟩
      rw [hc] at hi hd
      have hcl := c.toNat_lt
      have hcl2 : (c.toNat : Int) < 256 := by omega
      have HD := Lib.hid hd
      clear hd hc HK hkl hcl
      by_cases he : (c.toNat : Int) = r
      · have e1 : ((c.toNat : Int) == r) = true := beq_iff_eq.2 he
        have HE : Hid (escB r = true) := Lib.hid (by rw [HD.out, e1]; rfl)
        clear he HD
        go_wp2_with fail
        go_ret
        exact ⟨ret_bool HE.out.symm, rfl⟩
      · have e1 : ((c.toNat : Int) == r) = false := beq_eq_false_iff_ne.2 he
        have HE : Hid (escB r = (escs.drop (k + 1)).any fun c => (c.toNat : Int) == r) := Lib.hid (by rw [HD.out, e1]; rfl)
        clear he HD
        go_wp2_with fail
        go_round
        case rel => exact ⟨k + 1, by go_num, by omega, HE⟩
        case measure => simp [intOf]; omega
    · have HE : Hid (escB r = false) := Lib.hid (by rw [HK.out, show k = 20 by omega]; rfl)
      clear HK
      go_wp2_with fail
      go_ret
      exact ⟨ret_bool HE.out.symm, rfl⟩
end Go.Proofs.YtfjcbodkjjmagaaDoor
