/-
  The reference's iri.Check with what it calls: contracts. By an AI agent.
-/
import Derived.Test.YtfocpjcbfbbpgaaGreatDoorZUtfCheck
namespace Go.Proofs.YtfocpjcbfbbpgaaGreatDoor
open Go.RowKit
set_option maxRecDepth 100000
theorem refBarred_60 (w : World) : Calls Tryz.prog 153 #[.int .u8 60] w fun e w' => e = .returned (.bool true) /\ w' = w := by
 go_enter Tryz.func153, Tryz.ntmps153
 go_wp2
 go_ret
 exact ⟨rfl, rfl⟩
theorem refBarred_62 (w : World) : Calls Tryz.prog 153 #[.int .u8 62] w fun e w' => e = .returned (.bool true) /\ w' = w := by
 go_enter Tryz.func153, Tryz.ntmps153
 go_wp2
 go_ret
 exact ⟨rfl, rfl⟩
theorem refBarred_34 (w : World) : Calls Tryz.prog 153 #[.int .u8 34] w fun e w' => e = .returned (.bool true) /\ w' = w := by
 go_enter Tryz.func153, Tryz.ntmps153
 go_wp2
 go_ret
 exact ⟨rfl, rfl⟩
theorem refBarred_123 (w : World) : Calls Tryz.prog 153 #[.int .u8 123] w fun e w' => e = .returned (.bool true) /\ w' = w := by
 go_enter Tryz.func153, Tryz.ntmps153
 go_wp2
 go_ret
 exact ⟨rfl, rfl⟩
theorem refBarred_125 (w : World) : Calls Tryz.prog 153 #[.int .u8 125] w fun e w' => e = .returned (.bool true) /\ w' = w := by
 go_enter Tryz.func153, Tryz.ntmps153
 go_wp2
 go_ret
 exact ⟨rfl, rfl⟩
theorem refBarred_124 (w : World) : Calls Tryz.prog 153 #[.int .u8 124] w fun e w' => e = .returned (.bool true) /\ w' = w := by
 go_enter Tryz.func153, Tryz.ntmps153
 go_wp2
 go_ret
 exact ⟨rfl, rfl⟩
theorem refBarred_94 (w : World) : Calls Tryz.prog 153 #[.int .u8 94] w fun e w' => e = .returned (.bool true) /\ w' = w := by
 go_enter Tryz.func153, Tryz.ntmps153
 go_wp2
 go_ret
 exact ⟨rfl, rfl⟩
theorem refBarred_96 (w : World) : Calls Tryz.prog 153 #[.int .u8 96] w fun e w' => e = .returned (.bool true) /\ w' = w := by
 go_enter Tryz.func153, Tryz.ntmps153
 go_wp2
 go_ret
 exact ⟨rfl, rfl⟩
theorem refBarred_92 (w : World) : Calls Tryz.prog 153 #[.int .u8 92] w fun e w' => e = .returned (.bool true) /\ w' = w := by
 go_enter Tryz.func153, Tryz.ntmps153
 go_wp2
 go_ret
 exact ⟨rfl, rfl⟩
theorem refBarred_any (c : UInt8) (w : World) : Calls Tryz.prog 153 #[.int .u8 (c.toNat : Int)] w fun e w' => e = .returned (.bool (barC c)) /\ w' = w := by
 by_cases h60 : c = 60
 · subst h60
   exact refBarred_60 w
 by_cases h62 : c = 62
 · subst h62
   exact refBarred_62 w
 by_cases h34 : c = 34
 · subst h34
   exact refBarred_34 w
 by_cases h123 : c = 123
 · subst h123
   exact refBarred_123 w
 by_cases h125 : c = 125
 · subst h125
   exact refBarred_125 w
 by_cases h124 : c = 124
 · subst h124
   exact refBarred_124 w
 by_cases h94 : c = 94
 · subst h94
   exact refBarred_94 w
 by_cases h96 : c = 96
 · subst h96
   exact refBarred_96 w
 by_cases h92 : c = 92
 · subst h92
   exact refBarred_92 w
 have hb : barC c = decide (c.toNat <= 32) := by
   unfold barC
   rw [show ([60, 62, 34, 123, 125, 124, 94, 92, 96] : List UInt8).contains c = false from by rw [Bool.eq_false_iff]; intro hc; simp at hc; simp_all, Bool.or_false]
 have e60 : ((c.toNat : Int) == 60) = false := byte_ne (d := 60) h60
 have e62 : ((c.toNat : Int) == 62) = false := byte_ne (d := 62) h62
 have e34 : ((c.toNat : Int) == 34) = false := byte_ne (d := 34) h34
 have e123 : ((c.toNat : Int) == 123) = false := byte_ne (d := 123) h123
 have e125 : ((c.toNat : Int) == 125) = false := byte_ne (d := 125) h125
 have e124 : ((c.toNat : Int) == 124) = false := byte_ne (d := 124) h124
 have e94 : ((c.toNat : Int) == 94) = false := byte_ne (d := 94) h94
 have e96 : ((c.toNat : Int) == 96) = false := byte_ne (d := 96) h96
 have e92 : ((c.toNat : Int) == 92) = false := byte_ne (d := 92) h92
 clear h60 h62 h34 h123 h125 h124 h94 h96 h92
 rw [hb]
 clear hb
 by_cases h : c.toNat <= 32
 · have q : decide ((c.toNat : Int) <= 32) = true := decide_eq_true (by omega)
   rw [decide_eq_true h]
   clear h
   go_enter Tryz.func153, Tryz.ntmps153
   go_wp2
   go_ret
   exact ⟨rfl, rfl⟩
 · have q : decide ((c.toNat : Int) <= 32) = false := decide_eq_false (by omega)
   rw [decide_eq_false h]
   clear h
   go_enter Tryz.func153, Tryz.ntmps153
   go_wp2
   go_ret
   exact ⟨rfl, rfl⟩
theorem refLetter5_any (c : UInt8) (w : World) : Calls Tryz.prog 154 #[.int .u8 (c.toNat : Int)] w fun e w' => e = .returned (.bool (alphaC c)) /\ w' = w := by
 rcases zones c with z | z | z | z | z | z | z | z | z | z | z
 · have HE : Hid (alphaC c = true) := Lib.hid ((alphaC_zone c).2 (by omega))
   have t0 : decide (97 <= (c.toNat : Int)) = true := decide_eq_true (by omega)
   have t1 : decide ((c.toNat : Int) <= 122) = true := decide_eq_true (by omega)
   have t2 : decide (65 <= (c.toNat : Int)) = true := decide_eq_true (by omega)
   have t3 : decide ((c.toNat : Int) <= 90) = false := decide_eq_false (by omega)
   clear z
   go_enter Tryz.func154, Tryz.ntmps154
   go_wp2
   go_ret
   exact ⟨ret_bool HE.out.symm, rfl⟩
 · have HE : Hid (alphaC c = true) := Lib.hid ((alphaC_zone c).2 (by omega))
   have t0 : decide (97 <= (c.toNat : Int)) = false := decide_eq_false (by omega)
   have t1 : decide ((c.toNat : Int) <= 122) = true := decide_eq_true (by omega)
   have t2 : decide (65 <= (c.toNat : Int)) = true := decide_eq_true (by omega)
   have t3 : decide ((c.toNat : Int) <= 90) = true := decide_eq_true (by omega)
   clear z
   go_enter Tryz.func154, Tryz.ntmps154
   go_wp2
   go_ret
   exact ⟨ret_bool HE.out.symm, rfl⟩
 · have HE : Hid (alphaC c = false) := Lib.hid (by rw [Bool.eq_false_iff, ne_eq, alphaC_zone]; omega)
   have t0 : decide (97 <= (c.toNat : Int)) = false := decide_eq_false (by omega)
   have t1 : decide ((c.toNat : Int) <= 122) = true := decide_eq_true (by omega)
   have t2 : decide (65 <= (c.toNat : Int)) = false := decide_eq_false (by omega)
   have t3 : decide ((c.toNat : Int) <= 90) = true := decide_eq_true (by omega)
   clear z
   go_enter Tryz.func154, Tryz.ntmps154
   go_wp2
   go_ret
   exact ⟨ret_bool HE.out.symm, rfl⟩
 · have HE : Hid (alphaC c = false) := Lib.hid (by rw [Bool.eq_false_iff, ne_eq, alphaC_zone]; omega)
   have t0 : decide (97 <= (c.toNat : Int)) = false := decide_eq_false (by omega)
   have t1 : decide ((c.toNat : Int) <= 122) = true := decide_eq_true (by omega)
   have t2 : decide (65 <= (c.toNat : Int)) = false := decide_eq_false (by omega)
   have t3 : decide ((c.toNat : Int) <= 90) = true := decide_eq_true (by omega)
   clear z
   go_enter Tryz.func154, Tryz.ntmps154
   go_wp2
   go_ret
   exact ⟨ret_bool HE.out.symm, rfl⟩
 · have HE : Hid (alphaC c = false) := Lib.hid (by rw [Bool.eq_false_iff, ne_eq, alphaC_zone]; omega)
   have t0 : decide (97 <= (c.toNat : Int)) = false := decide_eq_false (by omega)
   have t1 : decide ((c.toNat : Int) <= 122) = true := decide_eq_true (by omega)
   have t2 : decide (65 <= (c.toNat : Int)) = false := decide_eq_false (by omega)
   have t3 : decide ((c.toNat : Int) <= 90) = true := decide_eq_true (by omega)
   clear z
   go_enter Tryz.func154, Tryz.ntmps154
   go_wp2
   go_ret
   exact ⟨ret_bool HE.out.symm, rfl⟩
 · have HE : Hid (alphaC c = false) := Lib.hid (by rw [Bool.eq_false_iff, ne_eq, alphaC_zone]; omega)
   have t0 : decide (97 <= (c.toNat : Int)) = false := decide_eq_false (by omega)
   have t1 : decide ((c.toNat : Int) <= 122) = true := decide_eq_true (by omega)
   have t2 : decide (65 <= (c.toNat : Int)) = false := decide_eq_false (by omega)
   have t3 : decide ((c.toNat : Int) <= 90) = true := decide_eq_true (by omega)
   clear z
   go_enter Tryz.func154, Tryz.ntmps154
   go_wp2
   go_ret
   exact ⟨ret_bool HE.out.symm, rfl⟩
 · have HE : Hid (alphaC c = false) := Lib.hid (by rw [Bool.eq_false_iff, ne_eq, alphaC_zone]; omega)
   have t0 : decide (97 <= (c.toNat : Int)) = false := decide_eq_false (by omega)
   have t1 : decide ((c.toNat : Int) <= 122) = true := decide_eq_true (by omega)
   have t2 : decide (65 <= (c.toNat : Int)) = false := decide_eq_false (by omega)
   have t3 : decide ((c.toNat : Int) <= 90) = true := decide_eq_true (by omega)
   clear z
   go_enter Tryz.func154, Tryz.ntmps154
   go_wp2
   go_ret
   exact ⟨ret_bool HE.out.symm, rfl⟩
 · have HE : Hid (alphaC c = false) := Lib.hid (by rw [Bool.eq_false_iff, ne_eq, alphaC_zone]; omega)
   have t0 : decide (97 <= (c.toNat : Int)) = false := decide_eq_false (by omega)
   have t1 : decide ((c.toNat : Int) <= 122) = true := decide_eq_true (by omega)
   have t2 : decide (65 <= (c.toNat : Int)) = false := decide_eq_false (by omega)
   have t3 : decide ((c.toNat : Int) <= 90) = true := decide_eq_true (by omega)
   clear z
   go_enter Tryz.func154, Tryz.ntmps154
   go_wp2
   go_ret
   exact ⟨ret_bool HE.out.symm, rfl⟩
 · have HE : Hid (alphaC c = false) := Lib.hid (by rw [Bool.eq_false_iff, ne_eq, alphaC_zone]; omega)
   have t0 : decide (97 <= (c.toNat : Int)) = false := decide_eq_false (by omega)
   have t1 : decide ((c.toNat : Int) <= 122) = true := decide_eq_true (by omega)
   have t2 : decide (65 <= (c.toNat : Int)) = false := decide_eq_false (by omega)
   have t3 : decide ((c.toNat : Int) <= 90) = true := decide_eq_true (by omega)
   clear z
   go_enter Tryz.func154, Tryz.ntmps154
   go_wp2
   go_ret
   exact ⟨ret_bool HE.out.symm, rfl⟩
 · have HE : Hid (alphaC c = false) := Lib.hid (by rw [Bool.eq_false_iff, ne_eq, alphaC_zone]; omega)
   have t0 : decide (97 <= (c.toNat : Int)) = false := decide_eq_false (by omega)
   have t1 : decide ((c.toNat : Int) <= 122) = true := decide_eq_true (by omega)
   have t2 : decide (65 <= (c.toNat : Int)) = true := decide_eq_true (by omega)
   have t3 : decide ((c.toNat : Int) <= 90) = false := decide_eq_false (by omega)
   clear z
   go_enter Tryz.func154, Tryz.ntmps154
   go_wp2
   go_ret
   exact ⟨ret_bool HE.out.symm, rfl⟩
 · have HE : Hid (alphaC c = false) := Lib.hid (by rw [Bool.eq_false_iff, ne_eq, alphaC_zone]; omega)
   have t0 : decide (97 <= (c.toNat : Int)) = true := decide_eq_true (by omega)
   have t1 : decide ((c.toNat : Int) <= 122) = false := decide_eq_false (by omega)
   have t2 : decide (65 <= (c.toNat : Int)) = true := decide_eq_true (by omega)
   have t3 : decide ((c.toNat : Int) <= 90) = false := decide_eq_false (by omega)
   clear z
   go_enter Tryz.func154, Tryz.ntmps154
   go_wp2
   go_ret
   exact ⟨ret_bool HE.out.symm, rfl⟩
theorem refDigit5_any (c : UInt8) (w : World) : Calls Tryz.prog 155 #[.int .u8 (c.toNat : Int)] w fun e w' => e = .returned (.bool (digC c)) /\ w' = w := by
 rcases zones c with z | z | z | z | z | z | z | z | z | z | z
 · have HE : Hid (digC c = false) := Lib.hid (by rw [Bool.eq_false_iff, ne_eq, digC_zone]; omega)
   have t0 : decide (48 <= (c.toNat : Int)) = true := decide_eq_true (by omega)
   have t1 : decide ((c.toNat : Int) <= 57) = false := decide_eq_false (by omega)
   clear z
   go_enter Tryz.func155, Tryz.ntmps155
   go_wp2
   go_ret
   exact ⟨ret_bool HE.out.symm, rfl⟩
 · have HE : Hid (digC c = false) := Lib.hid (by rw [Bool.eq_false_iff, ne_eq, digC_zone]; omega)
   have t0 : decide (48 <= (c.toNat : Int)) = true := decide_eq_true (by omega)
   have t1 : decide ((c.toNat : Int) <= 57) = false := decide_eq_false (by omega)
   clear z
   go_enter Tryz.func155, Tryz.ntmps155
   go_wp2
   go_ret
   exact ⟨ret_bool HE.out.symm, rfl⟩
 · have HE : Hid (digC c = true) := Lib.hid ((digC_zone c).2 (by omega))
   have t0 : decide (48 <= (c.toNat : Int)) = true := decide_eq_true (by omega)
   have t1 : decide ((c.toNat : Int) <= 57) = true := decide_eq_true (by omega)
   clear z
   go_enter Tryz.func155, Tryz.ntmps155
   go_wp2
   go_ret
   exact ⟨ret_bool HE.out.symm, rfl⟩
 · have HE : Hid (digC c = false) := Lib.hid (by rw [Bool.eq_false_iff, ne_eq, digC_zone]; omega)
   have t0 : decide (48 <= (c.toNat : Int)) = true := decide_eq_true (by omega)
   have t1 : decide ((c.toNat : Int) <= 57) = false := decide_eq_false (by omega)
   clear z
   go_enter Tryz.func155, Tryz.ntmps155
   go_wp2
   go_ret
   exact ⟨ret_bool HE.out.symm, rfl⟩
 · have HE : Hid (digC c = false) := Lib.hid (by rw [Bool.eq_false_iff, ne_eq, digC_zone]; omega)
   have t0 : decide (48 <= (c.toNat : Int)) = false := decide_eq_false (by omega)
   have t1 : decide ((c.toNat : Int) <= 57) = true := decide_eq_true (by omega)
   clear z
   go_enter Tryz.func155, Tryz.ntmps155
   go_wp2
   go_ret
   exact ⟨ret_bool HE.out.symm, rfl⟩
 · have HE : Hid (digC c = false) := Lib.hid (by rw [Bool.eq_false_iff, ne_eq, digC_zone]; omega)
   have t0 : decide (48 <= (c.toNat : Int)) = false := decide_eq_false (by omega)
   have t1 : decide ((c.toNat : Int) <= 57) = true := decide_eq_true (by omega)
   clear z
   go_enter Tryz.func155, Tryz.ntmps155
   go_wp2
   go_ret
   exact ⟨ret_bool HE.out.symm, rfl⟩
 · have HE : Hid (digC c = false) := Lib.hid (by rw [Bool.eq_false_iff, ne_eq, digC_zone]; omega)
   have t0 : decide (48 <= (c.toNat : Int)) = false := decide_eq_false (by omega)
   have t1 : decide ((c.toNat : Int) <= 57) = true := decide_eq_true (by omega)
   clear z
   go_enter Tryz.func155, Tryz.ntmps155
   go_wp2
   go_ret
   exact ⟨ret_bool HE.out.symm, rfl⟩
 · have HE : Hid (digC c = false) := Lib.hid (by rw [Bool.eq_false_iff, ne_eq, digC_zone]; omega)
   have t0 : decide (48 <= (c.toNat : Int)) = false := decide_eq_false (by omega)
   have t1 : decide ((c.toNat : Int) <= 57) = true := decide_eq_true (by omega)
   clear z
   go_enter Tryz.func155, Tryz.ntmps155
   go_wp2
   go_ret
   exact ⟨ret_bool HE.out.symm, rfl⟩
 · have HE : Hid (digC c = false) := Lib.hid (by rw [Bool.eq_false_iff, ne_eq, digC_zone]; omega)
   have t0 : decide (48 <= (c.toNat : Int)) = true := decide_eq_true (by omega)
   have t1 : decide ((c.toNat : Int) <= 57) = false := decide_eq_false (by omega)
   clear z
   go_enter Tryz.func155, Tryz.ntmps155
   go_wp2
   go_ret
   exact ⟨ret_bool HE.out.symm, rfl⟩
 · have HE : Hid (digC c = false) := Lib.hid (by rw [Bool.eq_false_iff, ne_eq, digC_zone]; omega)
   have t0 : decide (48 <= (c.toNat : Int)) = true := decide_eq_true (by omega)
   have t1 : decide ((c.toNat : Int) <= 57) = false := decide_eq_false (by omega)
   clear z
   go_enter Tryz.func155, Tryz.ntmps155
   go_wp2
   go_ret
   exact ⟨ret_bool HE.out.symm, rfl⟩
 · have HE : Hid (digC c = false) := Lib.hid (by rw [Bool.eq_false_iff, ne_eq, digC_zone]; omega)
   have t0 : decide (48 <= (c.toNat : Int)) = true := decide_eq_true (by omega)
   have t1 : decide ((c.toNat : Int) <= 57) = false := decide_eq_false (by omega)
   clear z
   go_enter Tryz.func155, Tryz.ntmps155
   go_wp2
   go_ret
   exact ⟨ret_bool HE.out.symm, rfl⟩
set_option maxHeartbeats 6400000 in
theorem refScheme_l (l : List UInt8) (w : World) (hl : l.length <= 140737488351232) :
   Calls Tryz.prog 100 #[.string (B l)] w fun e w' => e = .returned (.int .i64 (schemeN l 0 : Nat)) /\ w' = w := by
 have LET := Lib.hid refLetter5_any
 have DIG := Lib.hid refDigit5_any
 go_enter Tryz.func100, Tryz.ntmps100
 go_wp2_with fail
 go_loop [3] (fun i => ∃ j : Nat, j <= l.length /\ i = .int .i64 j /\ Hid (schemeN l 0 = schemeN (l.drop j) j)) (fun i => l.length - (intOf i).toNat)
 case atStart => exact ⟨0, Nat.zero_le _, rfl, Lib.hid rfl⟩
 case round =>
   obtain ⟨j, hj, rfl, HS⟩ := hrel
   by_cases hlt : j < l.length
   · have HD : Hid (l.drop j = l[j] :: l.drop (j + 1)) := Lib.hid (List.drop_eq_getElem_cons hlt)
     have hj0 : (((j : Int) == 0) = false /\ j ≠ 0) \/ (((j : Int) == 0) = true /\ j = 0) := by
       by_cases h : j = 0
       · exact .inr ⟨beq_iff_eq.2 (by omega), h⟩
       · exact .inl ⟨beq_eq_false_iff_ne.2 (by omega), h⟩
     obtain ⟨c, hc⟩ : ∃ c, l[j] = c := ⟨_, rfl⟩
     rw [hc] at HD
     have LE := Lib.hid (LET.out c)
     have DE := Lib.hid (DIG.out c)
     rcases hj0 with ⟨p2, p3⟩ | ⟨p2, p3⟩
     · rcases zones c with z | z | z | z | z | z | z | z | z | z | z
       · have la : alphaC c = true := (alphaC_zone c).2 (by omega)
         have da : digC c = false := by rw [Bool.eq_false_iff, ne_eq, digC_zone]; omega
         rw [la] at LE
         rw [da] at DE
         have t0 : ((c.toNat : Int) == 58) = false := beq_eq_false_iff_ne.2 (by omega)
         have t1 : ((c.toNat : Int) != 43) = true := by rw [bne, beq_eq_false_iff_ne.2 (show (c.toNat : Int) ≠ 43 by omega)]; rfl
         have t2 : ((c.toNat : Int) != 45) = true := by rw [bne, beq_eq_false_iff_ne.2 (show (c.toNat : Int) ≠ 45 by omega)]; rfl
         have t3 : ((c.toNat : Int) != 46) = true := by rw [bne, beq_eq_false_iff_ne.2 (show (c.toNat : Int) ≠ 46 by omega)]; rfl
         have HE : Hid (schemeN l 0 = schemeN (l.drop (j + 1)) (j + 1)) := Lib.hid (by rw [HS.out, HD.out, schemeN_go (by rw [ne_eq, is58]; omega) (by rw [alphaC_zone, digC_zone, is43, is45, is46]; omega)])
         clear z HD HS p3 la da LET DIG
         go_wp2_with (first | (go_at_call 154; (with_reducible refine (LE.out _).mono ?_); rintro e w1 ⟨rfl, rfl⟩) | (go_at_call 155; (with_reducible refine (DE.out _).mono ?_); rintro e w2 ⟨rfl, rfl⟩))
         go_round
         case rel => exact ⟨j + 1, hlt, by go_num, HE⟩
         case measure => simp [intOf]; omega
       · have la : alphaC c = true := (alphaC_zone c).2 (by omega)
         have da : digC c = false := by rw [Bool.eq_false_iff, ne_eq, digC_zone]; omega
         rw [la] at LE
         rw [da] at DE
         have t0 : ((c.toNat : Int) == 58) = false := beq_eq_false_iff_ne.2 (by omega)
         have t1 : ((c.toNat : Int) != 43) = true := by rw [bne, beq_eq_false_iff_ne.2 (show (c.toNat : Int) ≠ 43 by omega)]; rfl
         have t2 : ((c.toNat : Int) != 45) = true := by rw [bne, beq_eq_false_iff_ne.2 (show (c.toNat : Int) ≠ 45 by omega)]; rfl
         have t3 : ((c.toNat : Int) != 46) = true := by rw [bne, beq_eq_false_iff_ne.2 (show (c.toNat : Int) ≠ 46 by omega)]; rfl
         have HE : Hid (schemeN l 0 = schemeN (l.drop (j + 1)) (j + 1)) := Lib.hid (by rw [HS.out, HD.out, schemeN_go (by rw [ne_eq, is58]; omega) (by rw [alphaC_zone, digC_zone, is43, is45, is46]; omega)])
         clear z HD HS p3 la da LET DIG
         go_wp2_with (first | (go_at_call 154; (with_reducible refine (LE.out _).mono ?_); rintro e w1 ⟨rfl, rfl⟩) | (go_at_call 155; (with_reducible refine (DE.out _).mono ?_); rintro e w2 ⟨rfl, rfl⟩))
         go_round
         case rel => exact ⟨j + 1, hlt, by go_num, HE⟩
         case measure => simp [intOf]; omega
       · have la : alphaC c = false := by rw [Bool.eq_false_iff, ne_eq, alphaC_zone]; omega
         have da : digC c = true := (digC_zone c).2 (by omega)
         rw [la] at LE
         rw [da] at DE
         have t0 : ((c.toNat : Int) == 58) = false := beq_eq_false_iff_ne.2 (by omega)
         have t1 : ((c.toNat : Int) != 43) = true := by rw [bne, beq_eq_false_iff_ne.2 (show (c.toNat : Int) ≠ 43 by omega)]; rfl
         have t2 : ((c.toNat : Int) != 45) = true := by rw [bne, beq_eq_false_iff_ne.2 (show (c.toNat : Int) ≠ 45 by omega)]; rfl
         have t3 : ((c.toNat : Int) != 46) = true := by rw [bne, beq_eq_false_iff_ne.2 (show (c.toNat : Int) ≠ 46 by omega)]; rfl
         have HE : Hid (schemeN l 0 = schemeN (l.drop (j + 1)) (j + 1)) := Lib.hid (by rw [HS.out, HD.out, schemeN_go (by rw [ne_eq, is58]; omega) (by rw [alphaC_zone, digC_zone, is43, is45, is46]; omega)])
         clear z HD HS p3 la da LET DIG
         go_wp2_with (first | (go_at_call 154; (with_reducible refine (LE.out _).mono ?_); rintro e w1 ⟨rfl, rfl⟩) | (go_at_call 155; (with_reducible refine (DE.out _).mono ?_); rintro e w2 ⟨rfl, rfl⟩))
         go_round
         case rel => exact ⟨j + 1, hlt, by go_num, HE⟩
         case measure => simp [intOf]; omega
       · have la : alphaC c = false := by rw [Bool.eq_false_iff, ne_eq, alphaC_zone]; omega
         have da : digC c = false := by rw [Bool.eq_false_iff, ne_eq, digC_zone]; omega
         rw [la] at LE
         rw [da] at DE
         have t0 : ((c.toNat : Int) == 58) = true := beq_iff_eq.2 (by omega)
         have t1 : ((c.toNat : Int) != 43) = true := by rw [bne, beq_eq_false_iff_ne.2 (show (c.toNat : Int) ≠ 43 by omega)]; rfl
         have t2 : ((c.toNat : Int) != 45) = true := by rw [bne, beq_eq_false_iff_ne.2 (show (c.toNat : Int) ≠ 45 by omega)]; rfl
         have t3 : ((c.toNat : Int) != 46) = true := by rw [bne, beq_eq_false_iff_ne.2 (show (c.toNat : Int) ≠ 46 by omega)]; rfl
         have hcc : c = 58 := (is58 c).2 (by omega)
         have HE : Hid (schemeN l 0 = j) := Lib.hid (by rw [HS.out, HD.out, hcc, schemeN_colon])
         clear z HD HS p3 la da LET DIG hcc
         go_wp2_with (first | (go_at_call 154; (with_reducible refine (LE.out _).mono ?_); rintro e w1 ⟨rfl, rfl⟩) | (go_at_call 155; (with_reducible refine (DE.out _).mono ?_); rintro e w2 ⟨rfl, rfl⟩))
         go_ret
         exact ⟨ret_i64 (by rw [HE.out]), rfl⟩
       · have la : alphaC c = false := by rw [Bool.eq_false_iff, ne_eq, alphaC_zone]; omega
         have da : digC c = false := by rw [Bool.eq_false_iff, ne_eq, digC_zone]; omega
         rw [la] at LE
         rw [da] at DE
         have t0 : ((c.toNat : Int) == 58) = false := beq_eq_false_iff_ne.2 (by omega)
         have t1 : ((c.toNat : Int) != 43) = false := by rw [bne, beq_iff_eq.2 (show (c.toNat : Int) = 43 by omega)]; rfl
         have t2 : ((c.toNat : Int) != 45) = true := by rw [bne, beq_eq_false_iff_ne.2 (show (c.toNat : Int) ≠ 45 by omega)]; rfl
         have t3 : ((c.toNat : Int) != 46) = true := by rw [bne, beq_eq_false_iff_ne.2 (show (c.toNat : Int) ≠ 46 by omega)]; rfl
         have HE : Hid (schemeN l 0 = schemeN (l.drop (j + 1)) (j + 1)) := Lib.hid (by rw [HS.out, HD.out, schemeN_go (by rw [ne_eq, is58]; omega) (by rw [alphaC_zone, digC_zone, is43, is45, is46]; omega)])
         clear z HD HS p3 la da LET DIG
         go_wp2_with (first | (go_at_call 154; (with_reducible refine (LE.out _).mono ?_); rintro e w1 ⟨rfl, rfl⟩) | (go_at_call 155; (with_reducible refine (DE.out _).mono ?_); rintro e w2 ⟨rfl, rfl⟩))
         go_round
         case rel => exact ⟨j + 1, hlt, by go_num, HE⟩
         case measure => simp [intOf]; omega
       · have la : alphaC c = false := by rw [Bool.eq_false_iff, ne_eq, alphaC_zone]; omega
         have da : digC c = false := by rw [Bool.eq_false_iff, ne_eq, digC_zone]; omega
         rw [la] at LE
         rw [da] at DE
         have t0 : ((c.toNat : Int) == 58) = false := beq_eq_false_iff_ne.2 (by omega)
         have t1 : ((c.toNat : Int) != 43) = true := by rw [bne, beq_eq_false_iff_ne.2 (show (c.toNat : Int) ≠ 43 by omega)]; rfl
         have t2 : ((c.toNat : Int) != 45) = false := by rw [bne, beq_iff_eq.2 (show (c.toNat : Int) = 45 by omega)]; rfl
         have t3 : ((c.toNat : Int) != 46) = true := by rw [bne, beq_eq_false_iff_ne.2 (show (c.toNat : Int) ≠ 46 by omega)]; rfl
         have HE : Hid (schemeN l 0 = schemeN (l.drop (j + 1)) (j + 1)) := Lib.hid (by rw [HS.out, HD.out, schemeN_go (by rw [ne_eq, is58]; omega) (by rw [alphaC_zone, digC_zone, is43, is45, is46]; omega)])
         clear z HD HS p3 la da LET DIG
         go_wp2_with (first | (go_at_call 154; (with_reducible refine (LE.out _).mono ?_); rintro e w1 ⟨rfl, rfl⟩) | (go_at_call 155; (with_reducible refine (DE.out _).mono ?_); rintro e w2 ⟨rfl, rfl⟩))
         go_round
         case rel => exact ⟨j + 1, hlt, by go_num, HE⟩
         case measure => simp [intOf]; omega
       · have la : alphaC c = false := by rw [Bool.eq_false_iff, ne_eq, alphaC_zone]; omega
         have da : digC c = false := by rw [Bool.eq_false_iff, ne_eq, digC_zone]; omega
         rw [la] at LE
         rw [da] at DE
         have t0 : ((c.toNat : Int) == 58) = false := beq_eq_false_iff_ne.2 (by omega)
         have t1 : ((c.toNat : Int) != 43) = true := by rw [bne, beq_eq_false_iff_ne.2 (show (c.toNat : Int) ≠ 43 by omega)]; rfl
         have t2 : ((c.toNat : Int) != 45) = true := by rw [bne, beq_eq_false_iff_ne.2 (show (c.toNat : Int) ≠ 45 by omega)]; rfl
         have t3 : ((c.toNat : Int) != 46) = false := by rw [bne, beq_iff_eq.2 (show (c.toNat : Int) = 46 by omega)]; rfl
         have HE : Hid (schemeN l 0 = schemeN (l.drop (j + 1)) (j + 1)) := Lib.hid (by rw [HS.out, HD.out, schemeN_go (by rw [ne_eq, is58]; omega) (by rw [alphaC_zone, digC_zone, is43, is45, is46]; omega)])
         clear z HD HS p3 la da LET DIG
         go_wp2_with (first | (go_at_call 154; (with_reducible refine (LE.out _).mono ?_); rintro e w1 ⟨rfl, rfl⟩) | (go_at_call 155; (with_reducible refine (DE.out _).mono ?_); rintro e w2 ⟨rfl, rfl⟩))
         go_round
         case rel => exact ⟨j + 1, hlt, by go_num, HE⟩
         case measure => simp [intOf]; omega
       · have la : alphaC c = false := by rw [Bool.eq_false_iff, ne_eq, alphaC_zone]; omega
         have da : digC c = false := by rw [Bool.eq_false_iff, ne_eq, digC_zone]; omega
         rw [la] at LE
         rw [da] at DE
         have t0 : ((c.toNat : Int) == 58) = false := beq_eq_false_iff_ne.2 (by omega)
         have t1 : ((c.toNat : Int) != 43) = true := by rw [bne, beq_eq_false_iff_ne.2 (show (c.toNat : Int) ≠ 43 by omega)]; rfl
         have t2 : ((c.toNat : Int) != 45) = true := by rw [bne, beq_eq_false_iff_ne.2 (show (c.toNat : Int) ≠ 45 by omega)]; rfl
         have t3 : ((c.toNat : Int) != 46) = true := by rw [bne, beq_eq_false_iff_ne.2 (show (c.toNat : Int) ≠ 46 by omega)]; rfl
         have HE : Hid (schemeN l 0 = 0) := Lib.hid (by rw [HS.out, HD.out, schemeN_no (by rw [ne_eq, is58]; omega) (by rw [alphaC_zone, digC_zone, is43, is45, is46]; omega)])
         clear z HD HS p3 la da LET DIG
         go_wp2_with (first | (go_at_call 154; (with_reducible refine (LE.out _).mono ?_); rintro e w1 ⟨rfl, rfl⟩) | (go_at_call 155; (with_reducible refine (DE.out _).mono ?_); rintro e w2 ⟨rfl, rfl⟩))
         go_ret
         exact ⟨ret_i64 (by rw [HE.out]; rfl), rfl⟩
       · have la : alphaC c = false := by rw [Bool.eq_false_iff, ne_eq, alphaC_zone]; omega
         have da : digC c = false := by rw [Bool.eq_false_iff, ne_eq, digC_zone]; omega
         rw [la] at LE
         rw [da] at DE
         have t0 : ((c.toNat : Int) == 58) = false := beq_eq_false_iff_ne.2 (by omega)
         have t1 : ((c.toNat : Int) != 43) = true := by rw [bne, beq_eq_false_iff_ne.2 (show (c.toNat : Int) ≠ 43 by omega)]; rfl
         have t2 : ((c.toNat : Int) != 45) = true := by rw [bne, beq_eq_false_iff_ne.2 (show (c.toNat : Int) ≠ 45 by omega)]; rfl
         have t3 : ((c.toNat : Int) != 46) = true := by rw [bne, beq_eq_false_iff_ne.2 (show (c.toNat : Int) ≠ 46 by omega)]; rfl
         have HE : Hid (schemeN l 0 = 0) := Lib.hid (by rw [HS.out, HD.out, schemeN_no (by rw [ne_eq, is58]; omega) (by rw [alphaC_zone, digC_zone, is43, is45, is46]; omega)])
         clear z HD HS p3 la da LET DIG
         go_wp2_with (first | (go_at_call 154; (with_reducible refine (LE.out _).mono ?_); rintro e w1 ⟨rfl, rfl⟩) | (go_at_call 155; (with_reducible refine (DE.out _).mono ?_); rintro e w2 ⟨rfl, rfl⟩))
         go_ret
         exact ⟨ret_i64 (by rw [HE.out]; rfl), rfl⟩
       · have la : alphaC c = false := by rw [Bool.eq_false_iff, ne_eq, alphaC_zone]; omega
         have da : digC c = false := by rw [Bool.eq_false_iff, ne_eq, digC_zone]; omega
         rw [la] at LE
         rw [da] at DE
         have t0 : ((c.toNat : Int) == 58) = false := beq_eq_false_iff_ne.2 (by omega)
         have t1 : ((c.toNat : Int) != 43) = true := by rw [bne, beq_eq_false_iff_ne.2 (show (c.toNat : Int) ≠ 43 by omega)]; rfl
         have t2 : ((c.toNat : Int) != 45) = true := by rw [bne, beq_eq_false_iff_ne.2 (show (c.toNat : Int) ≠ 45 by omega)]; rfl
         have t3 : ((c.toNat : Int) != 46) = true := by rw [bne, beq_eq_false_iff_ne.2 (show (c.toNat : Int) ≠ 46 by omega)]; rfl
         have HE : Hid (schemeN l 0 = 0) := Lib.hid (by rw [HS.out, HD.out, schemeN_no (by rw [ne_eq, is58]; omega) (by rw [alphaC_zone, digC_zone, is43, is45, is46]; omega)])
         clear z HD HS p3 la da LET DIG
         go_wp2_with (first | (go_at_call 154; (with_reducible refine (LE.out _).mono ?_); rintro e w1 ⟨rfl, rfl⟩) | (go_at_call 155; (with_reducible refine (DE.out _).mono ?_); rintro e w2 ⟨rfl, rfl⟩))
         go_ret
         exact ⟨ret_i64 (by rw [HE.out]; rfl), rfl⟩
       · have la : alphaC c = false := by rw [Bool.eq_false_iff, ne_eq, alphaC_zone]; omega
         have da : digC c = false := by rw [Bool.eq_false_iff, ne_eq, digC_zone]; omega
         rw [la] at LE
         rw [da] at DE
         have t0 : ((c.toNat : Int) == 58) = false := beq_eq_false_iff_ne.2 (by omega)
         have t1 : ((c.toNat : Int) != 43) = true := by rw [bne, beq_eq_false_iff_ne.2 (show (c.toNat : Int) ≠ 43 by omega)]; rfl
         have t2 : ((c.toNat : Int) != 45) = true := by rw [bne, beq_eq_false_iff_ne.2 (show (c.toNat : Int) ≠ 45 by omega)]; rfl
         have t3 : ((c.toNat : Int) != 46) = true := by rw [bne, beq_eq_false_iff_ne.2 (show (c.toNat : Int) ≠ 46 by omega)]; rfl
         have HE : Hid (schemeN l 0 = 0) := Lib.hid (by rw [HS.out, HD.out, schemeN_no (by rw [ne_eq, is58]; omega) (by rw [alphaC_zone, digC_zone, is43, is45, is46]; omega)])
         clear z HD HS p3 la da LET DIG
         go_wp2_with (first | (go_at_call 154; (with_reducible refine (LE.out _).mono ?_); rintro e w1 ⟨rfl, rfl⟩) | (go_at_call 155; (with_reducible refine (DE.out _).mono ?_); rintro e w2 ⟨rfl, rfl⟩))
         go_ret
         exact ⟨ret_i64 (by rw [HE.out]; rfl), rfl⟩
     · rcases zones c with z | z | z | z | z | z | z | z | z | z | z
       · have la : alphaC c = true := (alphaC_zone c).2 (by omega)
         have da : digC c = false := by rw [Bool.eq_false_iff, ne_eq, digC_zone]; omega
         rw [la] at LE
         rw [da] at DE
         have t0 : ((c.toNat : Int) == 58) = false := beq_eq_false_iff_ne.2 (by omega)
         have t1 : ((c.toNat : Int) != 43) = true := by rw [bne, beq_eq_false_iff_ne.2 (show (c.toNat : Int) ≠ 43 by omega)]; rfl
         have t2 : ((c.toNat : Int) != 45) = true := by rw [bne, beq_eq_false_iff_ne.2 (show (c.toNat : Int) ≠ 45 by omega)]; rfl
         have t3 : ((c.toNat : Int) != 46) = true := by rw [bne, beq_eq_false_iff_ne.2 (show (c.toNat : Int) ≠ 46 by omega)]; rfl
         have HE : Hid (schemeN l 0 = schemeN (l.drop (j + 1)) (j + 1)) := Lib.hid (by rw [HS.out, HD.out, schemeN_go (by rw [ne_eq, is58]; omega) (by rw [alphaC_zone, digC_zone, is43, is45, is46]; omega)])
         clear z HD HS p3 la da LET DIG
         go_wp2_with (first | (go_at_call 154; (with_reducible refine (LE.out _).mono ?_); rintro e w1 ⟨rfl, rfl⟩) | (go_at_call 155; (with_reducible refine (DE.out _).mono ?_); rintro e w2 ⟨rfl, rfl⟩))
         go_round
         case rel => exact ⟨j + 1, hlt, by go_num, HE⟩
         case measure => simp [intOf]; omega
       · have la : alphaC c = true := (alphaC_zone c).2 (by omega)
         have da : digC c = false := by rw [Bool.eq_false_iff, ne_eq, digC_zone]; omega
         rw [la] at LE
         rw [da] at DE
         have t0 : ((c.toNat : Int) == 58) = false := beq_eq_false_iff_ne.2 (by omega)
         have t1 : ((c.toNat : Int) != 43) = true := by rw [bne, beq_eq_false_iff_ne.2 (show (c.toNat : Int) ≠ 43 by omega)]; rfl
         have t2 : ((c.toNat : Int) != 45) = true := by rw [bne, beq_eq_false_iff_ne.2 (show (c.toNat : Int) ≠ 45 by omega)]; rfl
         have t3 : ((c.toNat : Int) != 46) = true := by rw [bne, beq_eq_false_iff_ne.2 (show (c.toNat : Int) ≠ 46 by omega)]; rfl
         have HE : Hid (schemeN l 0 = schemeN (l.drop (j + 1)) (j + 1)) := Lib.hid (by rw [HS.out, HD.out, schemeN_go (by rw [ne_eq, is58]; omega) (by rw [alphaC_zone, digC_zone, is43, is45, is46]; omega)])
         clear z HD HS p3 la da LET DIG
         go_wp2_with (first | (go_at_call 154; (with_reducible refine (LE.out _).mono ?_); rintro e w1 ⟨rfl, rfl⟩) | (go_at_call 155; (with_reducible refine (DE.out _).mono ?_); rintro e w2 ⟨rfl, rfl⟩))
         go_round
         case rel => exact ⟨j + 1, hlt, by go_num, HE⟩
         case measure => simp [intOf]; omega
       · have la : alphaC c = false := by rw [Bool.eq_false_iff, ne_eq, alphaC_zone]; omega
         have da : digC c = true := (digC_zone c).2 (by omega)
         rw [la] at LE
         rw [da] at DE
         have t0 : ((c.toNat : Int) == 58) = false := beq_eq_false_iff_ne.2 (by omega)
         have t1 : ((c.toNat : Int) != 43) = true := by rw [bne, beq_eq_false_iff_ne.2 (show (c.toNat : Int) ≠ 43 by omega)]; rfl
         have t2 : ((c.toNat : Int) != 45) = true := by rw [bne, beq_eq_false_iff_ne.2 (show (c.toNat : Int) ≠ 45 by omega)]; rfl
         have t3 : ((c.toNat : Int) != 46) = true := by rw [bne, beq_eq_false_iff_ne.2 (show (c.toNat : Int) ≠ 46 by omega)]; rfl
         have HE : Hid (schemeN l 0 = 0) := Lib.hid (by rw [HS.out, HD.out, schemeN_no (by rw [ne_eq, is58]; omega) (by rw [alphaC_zone, digC_zone, is43, is45, is46]; omega)])
         clear z HD HS p3 la da LET DIG
         go_wp2_with (first | (go_at_call 154; (with_reducible refine (LE.out _).mono ?_); rintro e w1 ⟨rfl, rfl⟩) | (go_at_call 155; (with_reducible refine (DE.out _).mono ?_); rintro e w2 ⟨rfl, rfl⟩))
         go_ret
         exact ⟨ret_i64 (by rw [HE.out]; rfl), rfl⟩
       · have la : alphaC c = false := by rw [Bool.eq_false_iff, ne_eq, alphaC_zone]; omega
         have da : digC c = false := by rw [Bool.eq_false_iff, ne_eq, digC_zone]; omega
         rw [la] at LE
         rw [da] at DE
         have t0 : ((c.toNat : Int) == 58) = true := beq_iff_eq.2 (by omega)
         have t1 : ((c.toNat : Int) != 43) = true := by rw [bne, beq_eq_false_iff_ne.2 (show (c.toNat : Int) ≠ 43 by omega)]; rfl
         have t2 : ((c.toNat : Int) != 45) = true := by rw [bne, beq_eq_false_iff_ne.2 (show (c.toNat : Int) ≠ 45 by omega)]; rfl
         have t3 : ((c.toNat : Int) != 46) = true := by rw [bne, beq_eq_false_iff_ne.2 (show (c.toNat : Int) ≠ 46 by omega)]; rfl
         have hcc : c = 58 := (is58 c).2 (by omega)
         have HE : Hid (schemeN l 0 = j) := Lib.hid (by rw [HS.out, HD.out, hcc, schemeN_colon])
         clear z HD HS p3 la da LET DIG hcc
         go_wp2_with (first | (go_at_call 154; (with_reducible refine (LE.out _).mono ?_); rintro e w1 ⟨rfl, rfl⟩) | (go_at_call 155; (with_reducible refine (DE.out _).mono ?_); rintro e w2 ⟨rfl, rfl⟩))
         go_ret
         exact ⟨ret_i64 (by rw [HE.out]), rfl⟩
       · have la : alphaC c = false := by rw [Bool.eq_false_iff, ne_eq, alphaC_zone]; omega
         have da : digC c = false := by rw [Bool.eq_false_iff, ne_eq, digC_zone]; omega
         rw [la] at LE
         rw [da] at DE
         have t0 : ((c.toNat : Int) == 58) = false := beq_eq_false_iff_ne.2 (by omega)
         have t1 : ((c.toNat : Int) != 43) = false := by rw [bne, beq_iff_eq.2 (show (c.toNat : Int) = 43 by omega)]; rfl
         have t2 : ((c.toNat : Int) != 45) = true := by rw [bne, beq_eq_false_iff_ne.2 (show (c.toNat : Int) ≠ 45 by omega)]; rfl
         have t3 : ((c.toNat : Int) != 46) = true := by rw [bne, beq_eq_false_iff_ne.2 (show (c.toNat : Int) ≠ 46 by omega)]; rfl
         have HE : Hid (schemeN l 0 = 0) := Lib.hid (by rw [HS.out, HD.out, schemeN_no (by rw [ne_eq, is58]; omega) (by rw [alphaC_zone, digC_zone, is43, is45, is46]; omega)])
         clear z HD HS p3 la da LET DIG
         go_wp2_with (first | (go_at_call 154; (with_reducible refine (LE.out _).mono ?_); rintro e w1 ⟨rfl, rfl⟩) | (go_at_call 155; (with_reducible refine (DE.out _).mono ?_); rintro e w2 ⟨rfl, rfl⟩))
         go_ret
         exact ⟨ret_i64 (by rw [HE.out]; rfl), rfl⟩
       · have la : alphaC c = false := by rw [Bool.eq_false_iff, ne_eq, alphaC_zone]; omega
         have da : digC c = false := by rw [Bool.eq_false_iff, ne_eq, digC_zone]; omega
         rw [la] at LE
         rw [da] at DE
         have t0 : ((c.toNat : Int) == 58) = false := beq_eq_false_iff_ne.2 (by omega)
         have t1 : ((c.toNat : Int) != 43) = true := by rw [bne, beq_eq_false_iff_ne.2 (show (c.toNat : Int) ≠ 43 by omega)]; rfl
         have t2 : ((c.toNat : Int) != 45) = false := by rw [bne, beq_iff_eq.2 (show (c.toNat : Int) = 45 by omega)]; rfl
         have t3 : ((c.toNat : Int) != 46) = true := by rw [bne, beq_eq_false_iff_ne.2 (show (c.toNat : Int) ≠ 46 by omega)]; rfl
         have HE : Hid (schemeN l 0 = 0) := Lib.hid (by rw [HS.out, HD.out, schemeN_no (by rw [ne_eq, is58]; omega) (by rw [alphaC_zone, digC_zone, is43, is45, is46]; omega)])
         clear z HD HS p3 la da LET DIG
         go_wp2_with (first | (go_at_call 154; (with_reducible refine (LE.out _).mono ?_); rintro e w1 ⟨rfl, rfl⟩) | (go_at_call 155; (with_reducible refine (DE.out _).mono ?_); rintro e w2 ⟨rfl, rfl⟩))
         go_ret
         exact ⟨ret_i64 (by rw [HE.out]; rfl), rfl⟩
       · have la : alphaC c = false := by rw [Bool.eq_false_iff, ne_eq, alphaC_zone]; omega
         have da : digC c = false := by rw [Bool.eq_false_iff, ne_eq, digC_zone]; omega
         rw [la] at LE
         rw [da] at DE
         have t0 : ((c.toNat : Int) == 58) = false := beq_eq_false_iff_ne.2 (by omega)
         have t1 : ((c.toNat : Int) != 43) = true := by rw [bne, beq_eq_false_iff_ne.2 (show (c.toNat : Int) ≠ 43 by omega)]; rfl
         have t2 : ((c.toNat : Int) != 45) = true := by rw [bne, beq_eq_false_iff_ne.2 (show (c.toNat : Int) ≠ 45 by omega)]; rfl
         have t3 : ((c.toNat : Int) != 46) = false := by rw [bne, beq_iff_eq.2 (show (c.toNat : Int) = 46 by omega)]; rfl
         have HE : Hid (schemeN l 0 = 0) := Lib.hid (by rw [HS.out, HD.out, schemeN_no (by rw [ne_eq, is58]; omega) (by rw [alphaC_zone, digC_zone, is43, is45, is46]; omega)])
         clear z HD HS p3 la da LET DIG
         go_wp2_with (first | (go_at_call 154; (with_reducible refine (LE.out _).mono ?_); rintro e w1 ⟨rfl, rfl⟩) | (go_at_call 155; (with_reducible refine (DE.out _).mono ?_); rintro e w2 ⟨rfl, rfl⟩))
         go_ret
         exact ⟨ret_i64 (by rw [HE.out]; rfl), rfl⟩
       · have la : alphaC c = false := by rw [Bool.eq_false_iff, ne_eq, alphaC_zone]; omega
         have da : digC c = false := by rw [Bool.eq_false_iff, ne_eq, digC_zone]; omega
         rw [la] at LE
         rw [da] at DE
         have t0 : ((c.toNat : Int) == 58) = false := beq_eq_false_iff_ne.2 (by omega)
         have t1 : ((c.toNat : Int) != 43) = true := by rw [bne, beq_eq_false_iff_ne.2 (show (c.toNat : Int) ≠ 43 by omega)]; rfl
         have t2 : ((c.toNat : Int) != 45) = true := by rw [bne, beq_eq_false_iff_ne.2 (show (c.toNat : Int) ≠ 45 by omega)]; rfl
         have t3 : ((c.toNat : Int) != 46) = true := by rw [bne, beq_eq_false_iff_ne.2 (show (c.toNat : Int) ≠ 46 by omega)]; rfl
         have HE : Hid (schemeN l 0 = 0) := Lib.hid (by rw [HS.out, HD.out, schemeN_no (by rw [ne_eq, is58]; omega) (by rw [alphaC_zone, digC_zone, is43, is45, is46]; omega)])
         clear z HD HS p3 la da LET DIG
         go_wp2_with (first | (go_at_call 154; (with_reducible refine (LE.out _).mono ?_); rintro e w1 ⟨rfl, rfl⟩) | (go_at_call 155; (with_reducible refine (DE.out _).mono ?_); rintro e w2 ⟨rfl, rfl⟩))
         go_ret
         exact ⟨ret_i64 (by rw [HE.out]; rfl), rfl⟩
       · have la : alphaC c = false := by rw [Bool.eq_false_iff, ne_eq, alphaC_zone]; omega
         have da : digC c = false := by rw [Bool.eq_false_iff, ne_eq, digC_zone]; omega
         rw [la] at LE
         rw [da] at DE
         have t0 : ((c.toNat : Int) == 58) = false := beq_eq_false_iff_ne.2 (by omega)
         have t1 : ((c.toNat : Int) != 43) = true := by rw [bne, beq_eq_false_iff_ne.2 (show (c.toNat : Int) ≠ 43 by omega)]; rfl
         have t2 : ((c.toNat : Int) != 45) = true := by rw [bne, beq_eq_false_iff_ne.2 (show (c.toNat : Int) ≠ 45 by omega)]; rfl
         have t3 : ((c.toNat : Int) != 46) = true := by rw [bne, beq_eq_false_iff_ne.2 (show (c.toNat : Int) ≠ 46 by omega)]; rfl
         have HE : Hid (schemeN l 0 = 0) := Lib.hid (by rw [HS.out, HD.out, schemeN_no (by rw [ne_eq, is58]; omega) (by rw [alphaC_zone, digC_zone, is43, is45, is46]; omega)])
         clear z HD HS p3 la da LET DIG
         go_wp2_with (first | (go_at_call 154; (with_reducible refine (LE.out _).mono ?_); rintro e w1 ⟨rfl, rfl⟩) | (go_at_call 155; (with_reducible refine (DE.out _).mono ?_); rintro e w2 ⟨rfl, rfl⟩))
         go_ret
         exact ⟨ret_i64 (by rw [HE.out]; rfl), rfl⟩
       · have la : alphaC c = false := by rw [Bool.eq_false_iff, ne_eq, alphaC_zone]; omega
         have da : digC c = false := by rw [Bool.eq_false_iff, ne_eq, digC_zone]; omega
         rw [la] at LE
         rw [da] at DE
         have t0 : ((c.toNat : Int) == 58) = false := beq_eq_false_iff_ne.2 (by omega)
         have t1 : ((c.toNat : Int) != 43) = true := by rw [bne, beq_eq_false_iff_ne.2 (show (c.toNat : Int) ≠ 43 by omega)]; rfl
         have t2 : ((c.toNat : Int) != 45) = true := by rw [bne, beq_eq_false_iff_ne.2 (show (c.toNat : Int) ≠ 45 by omega)]; rfl
         have t3 : ((c.toNat : Int) != 46) = true := by rw [bne, beq_eq_false_iff_ne.2 (show (c.toNat : Int) ≠ 46 by omega)]; rfl
         have HE : Hid (schemeN l 0 = 0) := Lib.hid (by rw [HS.out, HD.out, schemeN_no (by rw [ne_eq, is58]; omega) (by rw [alphaC_zone, digC_zone, is43, is45, is46]; omega)])
         clear z HD HS p3 la da LET DIG
         go_wp2_with (first | (go_at_call 154; (with_reducible refine (LE.out _).mono ?_); rintro e w1 ⟨rfl, rfl⟩) | (go_at_call 155; (with_reducible refine (DE.out _).mono ?_); rintro e w2 ⟨rfl, rfl⟩))
         go_ret
         exact ⟨ret_i64 (by rw [HE.out]; rfl), rfl⟩
       · have la : alphaC c = false := by rw [Bool.eq_false_iff, ne_eq, alphaC_zone]; omega
         have da : digC c = false := by rw [Bool.eq_false_iff, ne_eq, digC_zone]; omega
         rw [la] at LE
         rw [da] at DE
         have t0 : ((c.toNat : Int) == 58) = false := beq_eq_false_iff_ne.2 (by omega)
         have t1 : ((c.toNat : Int) != 43) = true := by rw [bne, beq_eq_false_iff_ne.2 (show (c.toNat : Int) ≠ 43 by omega)]; rfl
         have t2 : ((c.toNat : Int) != 45) = true := by rw [bne, beq_eq_false_iff_ne.2 (show (c.toNat : Int) ≠ 45 by omega)]; rfl
         have t3 : ((c.toNat : Int) != 46) = true := by rw [bne, beq_eq_false_iff_ne.2 (show (c.toNat : Int) ≠ 46 by omega)]; rfl
         have HE : Hid (schemeN l 0 = 0) := Lib.hid (by rw [HS.out, HD.out, schemeN_no (by rw [ne_eq, is58]; omega) (by rw [alphaC_zone, digC_zone, is43, is45, is46]; omega)])
         clear z HD HS p3 la da LET DIG
         go_wp2_with (first | (go_at_call 154; (with_reducible refine (LE.out _).mono ?_); rintro e w1 ⟨rfl, rfl⟩) | (go_at_call 155; (with_reducible refine (DE.out _).mono ?_); rintro e w2 ⟨rfl, rfl⟩))
         go_ret
         exact ⟨ret_i64 (by rw [HE.out]; rfl), rfl⟩
   · obtain rfl : j = l.length := by omega
     have HE : Hid (schemeN l 0 = 0) := Lib.hid (by rw [HS.out, List.drop_length]; rfl)
     clear HS
     go_wp2_with fail
     go_ret
     exact ⟨ret_i64 (by rw [HE.out]; rfl), rfl⟩
set_option maxHeartbeats 1600000 in
theorem refReference_l (l : List UInt8) (w : World) (hl : l.length <= 140737488351232) :
   Calls Tryz.prog 99 #[.string (B l)] w fun e w' => e = .returned (.int .i64 (refN l)) /\ Below w.heap.size w w' := by
 have UC := Lib.hid (fun u => refUtfCheck_l l u (by omega))
 have BA := Lib.hid refBarred_any
 by_cases h1 : 65536 < l.length
 · have HE : Hid (refN l = 2) := Lib.hid (by unfold refN; rw [if_pos h1])
   go_enter Tryz.func99, Tryz.ntmps99
   go_wp2_with fail
   go_ret
   exact ⟨ret_i64 HE.out.symm, Below.refl _ _⟩
 obtain ⟨k, hk⟩ : ∃ k, utfF l 0 = k := ⟨_, rfl⟩
 rw [hk] at UC
 by_cases h2 : 0 <= k
 · have HE : Hid (refN l = 40) := Lib.hid (by unfold refN; rw [if_neg h1, if_pos (by rw [hk]; exact h2)])
   have q2 : decide (0 <= k) = true := decide_eq_true h2
   clear hk
   go_enter Tryz.func99, Tryz.ntmps99
   go_wp2_with (go_at_call 80; (with_reducible refine (UC.out _).mono ?_); rintro e w1 ⟨rfl, hb1⟩)
   go_ret
   exact ⟨ret_i64 HE.out.symm, hb1⟩
 have q2 : decide (0 <= k) = false := decide_eq_false h2
 have HA : Hid (refN l = if l.any barC = true then 50 else 0) := Lib.hid (by unfold refN; rw [if_neg h1, if_neg (by rw [hk]; exact h2)])
 clear hk
 go_enter Tryz.func99, Tryz.ntmps99
 go_wp2_with (go_at_call 80; (with_reducible refine (UC.out _).mono ?_); rintro e w1 ⟨rfl, hb1⟩)
 go_loop [3] (fun i => ∃ j : Nat, j <= l.length /\ i = .int .i64 j /\ Hid (l.any barC = (l.drop j).any barC)) (fun i => l.length - (intOf i).toNat)
 case atStart => exact ⟨0, Nat.zero_le _, rfl, Lib.hid rfl⟩
 case round =>
   obtain ⟨j, hj, rfl, HS⟩ := hrel
   by_cases hlt : j < l.length
   · have HD : Hid (l.any barC = (barC l[j] || (l.drop (j + 1)).any barC)) := Lib.hid (by rw [HS.out, List.drop_eq_getElem_cons hlt, List.any_cons])
     obtain ⟨c, hc⟩ : ∃ c, l[j] = c := ⟨_, rfl⟩
     rw [hc] at HD
     have BC := Lib.hid (BA.out c)
     cases hq : barC c with
     | true =>
       rw [hq] at BC HD
       have HE : Hid (refN l = 50) := Lib.hid (by rw [HA.out, HD.out]; rfl)
       clear HD HS hq HA
       go_wp2_with (go_at_call 153; (with_reducible refine (BC.out _).mono ?_); rintro e w2 ⟨rfl, rfl⟩)
       go_ret
       exact ⟨ret_i64 HE.out.symm, hb1⟩
     | false =>
       rw [hq] at BC HD
       have HE : Hid (l.any barC = (l.drop (j + 1)).any barC) := Lib.hid (by rw [HD.out]; rfl)
       clear HD HS hq
       go_wp2_with (go_at_call 153; (with_reducible refine (BC.out _).mono ?_); rintro e w2 ⟨rfl, rfl⟩)
       go_round
       case rel => exact ⟨j + 1, hlt, by go_num, HE⟩
       case measure => simp [intOf]; omega
   · obtain rfl : j = l.length := by omega
     have HE : Hid (refN l = 0) := Lib.hid (by rw [HA.out, HS.out, List.drop_length]; rfl)
     clear HS HA
     go_wp2_with fail
     go_ret
     exact ⟨ret_i64 HE.out.symm, hb1⟩
set_option maxHeartbeats 1600000 in
theorem refIriCheck_l (l : List UInt8) (w : World) (hl : l.length <= 140737488351232) :
   Calls Tryz.prog 55 #[.string (B l)] w fun e w' => e = .returned (.int .i64 (iriN l)) /\ Below w.heap.size w w' := by
 have RE := Lib.hid (fun u => refReference_l l u hl)
 have SC := Lib.hid (fun u => refScheme_l l u hl)
 by_cases h1 : refN l = 0
 · have q1 : ((0 : Int) == 0) = true := rfl
   rw [h1] at RE
   by_cases h2 : schemeN l 0 = 0
   · have HE : Hid (iriN l = 51) := Lib.hid (by unfold iriN; rw [if_neg (fun x => x h1), if_pos h2])
     rw [h2] at SC
     clear h1 h2
     go_enter Tryz.func55, Tryz.ntmps55
     go_wp2_with (first | (go_at_call 99; (with_reducible refine (RE.out _).mono ?_); rintro e w1 ⟨rfl, hb1⟩) | (go_at_call 100; (with_reducible refine (SC.out _).mono ?_); rintro e w2 ⟨rfl, rfl⟩))
     go_ret
     exact ⟨ret_i64 HE.out.symm, hb1⟩
   · have HE : Hid (iriN l = 0) := Lib.hid (by unfold iriN; rw [if_neg (fun x => x h1), if_neg h2])
     obtain ⟨s, hs⟩ : ∃ s, schemeN l 0 = s := ⟨_, rfl⟩
     rw [hs] at SC h2
     have q2 : ((s : Int) == 0) = false := beq_eq_false_iff_ne.2 (by omega)
     clear hs h1 h2
     go_enter Tryz.func55, Tryz.ntmps55
     go_wp2_with (first | (go_at_call 99; (with_reducible refine (RE.out _).mono ?_); rintro e w1 ⟨rfl, hb1⟩) | (go_at_call 100; (with_reducible refine (SC.out _).mono ?_); rintro e w2 ⟨rfl, rfl⟩))
     go_ret
     exact ⟨ret_i64 HE.out.symm, hb1⟩
 · have HE : Hid (iriN l = refN l) := Lib.hid (by unfold iriN; rw [if_pos h1])
   obtain ⟨k, hk⟩ : ∃ k, refN l = k := ⟨_, rfl⟩
   rw [hk] at RE HE h1
   have q1 : (k == 0) = false := beq_eq_false_iff_ne.2 h1
   clear h1 hk
   go_enter Tryz.func55, Tryz.ntmps55
   go_wp2_with (go_at_call 99; (with_reducible refine (RE.out _).mono ?_); rintro e w1 ⟨rfl, hb1⟩)
   go_ret
   exact ⟨ret_i64 HE.out.symm, hb1⟩
end Go.Proofs.YtfocpjcbfbbpgaaGreatDoor
