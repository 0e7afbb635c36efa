/-
  utf.Check, and the reference's: contracts. By an AI agent.
-/
import Derived.Test.YtmnigckpejcaeaaGreatDoorZGUtf
import Derived.Test.YtmnigckpejcaeaaGreatDoorZTerm0
import Derived.Test.YtmnigckpejcaeaaGreatDoorZBar0
namespace Go.Proofs.YtmnigckpejcaeaaGreatDoor
open Go.RowKit
set_option maxRecDepth 100000
set_option maxHeartbeats 800000 in
theorem utfCheck_l (l : List UInt8) (w : World) (hl : l.length <= 4611686018427387904) :
   Calls Tryz.prog 136 #[.string (B l)] w fun e w' => e = .returned (.int .i64 (utfF l 0)) /\ w' = w := by
 have NX := Lib.hid (fun (j : Nat) (hj : j < l.length) (v : Int) (n : Nat) (h : nextAt l j = (v, n)) (u : World) => h ▸ next_l l j u hl (by omega))
 go_enter Tryz.func136, Tryz.ntmps136
 go_wp2_with fail
 go_loop [3] (fun i => ∃ j : Nat, j <= l.length /\ i = .int .i64 j /\ Hid (utfF l 0 = utfF l j)) (fun i => l.length - (intOf i).toNat)
 case atStart => exact ⟨0, Nat.zero_le _, rfl, Lib.hid rfl⟩
 case round =>
   obtain ⟨j, hj, rfl, HU⟩ := hrel
   by_cases hlt : j < l.length
   · obtain ⟨v, n, hq⟩ : ∃ v n, nextAt l (j : Int) = (v, n) := ⟨_, _, rfl⟩
     have N2 := Lib.hid (NX.out j hlt v n hq)
     by_cases hn : n = 0
     · have e0 : ((n : Int) == 0) = true := by rw [hn]; rfl
       have HE := Lib.hid (HU.out.trans (utfF_bad hlt (hn ▸ hq)))
       clear hq HU hn
       go_wp2_with (go_at_call 175; (with_reducible refine (N2.out _).mono ?_); rintro e w1 ⟨rfl, rfl⟩; unfold pairV)
       go_ret
       exact ⟨ret_i64 HE.out.symm, rfl⟩
     · have e0 : ((n : Int) == 0) = false := beq_eq_false_iff_ne.2 (by omega)
       have hb := nextAt_bound hq hn
       have hjn : j + n <= l.length := by omega
       have hn1 : 0 < n := by omega
       have HE := Lib.hid (HU.out.trans (utfF_go hlt hq hn))
       clear hq HU hn hb
       go_wp2_with (go_at_call 175; (with_reducible refine (N2.out _).mono ?_); rintro e w1 ⟨rfl, rfl⟩; unfold pairV)
       go_round
       case rel => exact ⟨j + n, hjn, by go_num, HE⟩
       case measure => simp [intOf]; omega
   · obtain rfl : j = l.length := by omega
     have HE := Lib.hid (HU.out.trans (utfF_end (Nat.le_refl _)))
     clear HU
     go_wp2_with fail
     go_ret
     exact ⟨ret_i64 HE.out.symm, rfl⟩
end Go.Proofs.YtmnigckpejcaeaaGreatDoor
namespace Go.Proofs.YtmnigckpejcaeaaGreatDoor
open Go.RowKit
set_option maxRecDepth 100000
theorem schemeN_colon {r : List UInt8} {i : Nat} : schemeN (58 :: r) i = i := by rw [schemeN, if_pos rfl]
theorem schemeN_go {c : UInt8} {r : List UInt8} {i : Nat} (h : c ≠ 58) (h2 : alphaC c = true \/ (i ≠ 0 /\ (digC c = true \/ c = 43 \/ c = 45 \/ c = 46))) : schemeN (c :: r) i = schemeN r (i + 1) := by rw [schemeN, if_neg h, if_pos h2]
theorem schemeN_no {c : UInt8} {r : List UInt8} {i : Nat} (h : c ≠ 58) (h2 : ¬ (alphaC c = true \/ (i ≠ 0 /\ (digC c = true \/ c = 43 \/ c = 45 \/ c = 46)))) : schemeN (c :: r) i = 0 := by rw [schemeN, if_neg h, if_neg h2]
theorem alphaC_zone (c : UInt8) : alphaC c = true ↔ (97 <= c.toNat /\ c.toNat <= 122) \/ (65 <= c.toNat /\ c.toNat <= 90) := by unfold alphaC; simp
theorem digC_zone (c : UInt8) : digC c = true ↔ 48 <= c.toNat /\ c.toNat <= 57 := by unfold digC; simp
theorem byte_iff (c : UInt8) (n : Nat) (hn : n < 256) : c = UInt8.ofNat n ↔ c.toNat = n := by
 rw [<- UInt8.toNat_inj]; simp; omega
theorem is58 (c : UInt8) : c = 58 ↔ c.toNat = 58 := byte_iff c 58 (by omega)
theorem is43 (c : UInt8) : c = 43 ↔ c.toNat = 43 := byte_iff c 43 (by omega)
theorem is45 (c : UInt8) : c = 45 ↔ c.toNat = 45 := byte_iff c 45 (by omega)
theorem is46 (c : UInt8) : c = 46 ↔ c.toNat = 46 := byte_iff c 46 (by omega)
theorem zones (c : UInt8) : (97 <= (c.toNat : Int) /\ (c.toNat : Int) <= 122) \/ (65 <= (c.toNat : Int) /\ (c.toNat : Int) <= 90) \/ (48 <= (c.toNat : Int) /\ (c.toNat : Int) <= 57) \/ (c.toNat : Int) = 58 \/ (c.toNat : Int) = 43 \/ (c.toNat : Int) = 45 \/ (c.toNat : Int) = 46 \/
   ((c.toNat : Int) < 48 /\ (c.toNat : Int) ≠ 43 /\ (c.toNat : Int) ≠ 45 /\ (c.toNat : Int) ≠ 46) \/ (59 <= (c.toNat : Int) /\ (c.toNat : Int) <= 64) \/ (91 <= (c.toNat : Int) /\ (c.toNat : Int) <= 96) \/ 123 <= (c.toNat : Int) := by omega
set_option maxHeartbeats 6400000 in
theorem scheme_l (l : List UInt8) (w : World) (_hl : l.length <= 140737488351232) :
   Calls Tryz.prog 134 #[.string (B l)] w fun e w' => e = .returned (.string (B (l.take (schemeN l 0)))) /\ Below w.heap.size w w' := by
 go_enter Tryz.func134, Tryz.ntmps134
 go_wp2_with fail
 go_loopw [3] (fun _ wr => ∃ j : Nat, j <= l.length /\ wr = w.iter (B l) j /\ Hid (schemeN l 0 = schemeN (l.drop j) j)) (fun _ wr => l.length - wr.iterPos w.heap.size)
 case atStart => exact ⟨0, Nat.zero_le _, rfl, Lib.hid rfl⟩
 case round =>
   obtain ⟨j, hj, rfl, HS⟩ := hrel
   by_cases hlt : j < l.length
   · have HD : Hid (l.drop j = l[j] :: l.drop (j + 1)) := Lib.hid (List.drop_eq_getElem_cons hlt)
     have hj0 : (decide (0 < j) = true /\ ((j : Int) == 0) = false /\ j ≠ 0) \/ (decide (0 < j) = false /\ ((j : Int) == 0) = true /\ j = 0) := by
       by_cases h : j = 0
       · exact .inr ⟨decide_eq_false (by omega), beq_iff_eq.2 (by omega), h⟩
       · exact .inl ⟨decide_eq_true (by omega), beq_eq_false_iff_ne.2 (by omega), h⟩
     by_cases ha : l[j].toNat < 128
     · have hnx := fun ty => next_ascii (P := Tryz.prog) w l j ty hlt ha
       obtain ⟨c, hc⟩ : ∃ c, l[j] = c := ⟨_, rfl⟩
       rw [hc] at hnx HD
       clear ha hc
       rcases hj0 with ⟨p1, p2, p3⟩ | ⟨p1, p2, p3⟩
       · rcases zones c with z | z | z | z | z | z | z | z | z | z | z
         · have t0 : decide (97 <= (c.toNat : Int)) = true := decide_eq_true (by omega)
           have t1 : decide ((c.toNat : Int) <= 122) = true := decide_eq_true (by omega)
           have t2 : decide (65 <= (c.toNat : Int)) = true := decide_eq_true (by omega)
           have t3 : decide ((c.toNat : Int) <= 90) = false := decide_eq_false (by omega)
           have t4 : ((c.toNat : Int) == 58) = false := beq_eq_false_iff_ne.2 (by omega)
           have t5 : decide ((c.toNat : Int) < 48) = false := decide_eq_false (by omega)
           have t6 : decide (57 < (c.toNat : Int)) = true := decide_eq_true (by omega)
           have t7 : ((c.toNat : Int) != 43) = true := by rw [bne, beq_eq_false_iff_ne.2 (show (c.toNat : Int) ≠ 43 by omega)]; rfl
           have t8 : ((c.toNat : Int) != 45) = true := by rw [bne, beq_eq_false_iff_ne.2 (show (c.toNat : Int) ≠ 45 by omega)]; rfl
           have t9 : ((c.toNat : Int) != 46) = true := by rw [bne, beq_eq_false_iff_ne.2 (show (c.toNat : Int) ≠ 46 by omega)]; rfl
           have HE : Hid (schemeN l 0 = schemeN (l.drop (j + 1)) (j + 1)) := Lib.hid (by rw [HS.out, HD.out, schemeN_go (by rw [ne_eq, is58]; omega) (by rw [alphaC_zone, digC_zone, is43, is45, is46]; omega)])
           clear z HD HS p3
           go_wp2_with fail
           go_roundw
           case rel => exact ⟨j + 1, hlt, rfl, HE⟩
           case measure => simp; omega
         · have t0 : decide (97 <= (c.toNat : Int)) = false := decide_eq_false (by omega)
           have t1 : decide ((c.toNat : Int) <= 122) = true := decide_eq_true (by omega)
           have t2 : decide (65 <= (c.toNat : Int)) = true := decide_eq_true (by omega)
           have t3 : decide ((c.toNat : Int) <= 90) = true := decide_eq_true (by omega)
           have t4 : ((c.toNat : Int) == 58) = false := beq_eq_false_iff_ne.2 (by omega)
           have t5 : decide ((c.toNat : Int) < 48) = false := decide_eq_false (by omega)
           have t6 : decide (57 < (c.toNat : Int)) = true := decide_eq_true (by omega)
           have t7 : ((c.toNat : Int) != 43) = true := by rw [bne, beq_eq_false_iff_ne.2 (show (c.toNat : Int) ≠ 43 by omega)]; rfl
           have t8 : ((c.toNat : Int) != 45) = true := by rw [bne, beq_eq_false_iff_ne.2 (show (c.toNat : Int) ≠ 45 by omega)]; rfl
           have t9 : ((c.toNat : Int) != 46) = true := by rw [bne, beq_eq_false_iff_ne.2 (show (c.toNat : Int) ≠ 46 by omega)]; rfl
           have HE : Hid (schemeN l 0 = schemeN (l.drop (j + 1)) (j + 1)) := Lib.hid (by rw [HS.out, HD.out, schemeN_go (by rw [ne_eq, is58]; omega) (by rw [alphaC_zone, digC_zone, is43, is45, is46]; omega)])
           clear z HD HS p3
           go_wp2_with fail
           go_roundw
           case rel => exact ⟨j + 1, hlt, rfl, HE⟩
           case measure => simp; omega
         · have t0 : decide (97 <= (c.toNat : Int)) = false := decide_eq_false (by omega)
           have t1 : decide ((c.toNat : Int) <= 122) = true := decide_eq_true (by omega)
           have t2 : decide (65 <= (c.toNat : Int)) = false := decide_eq_false (by omega)
           have t3 : decide ((c.toNat : Int) <= 90) = true := decide_eq_true (by omega)
           have t4 : ((c.toNat : Int) == 58) = false := beq_eq_false_iff_ne.2 (by omega)
           have t5 : decide ((c.toNat : Int) < 48) = false := decide_eq_false (by omega)
           have t6 : decide (57 < (c.toNat : Int)) = false := decide_eq_false (by omega)
           have t7 : ((c.toNat : Int) != 43) = true := by rw [bne, beq_eq_false_iff_ne.2 (show (c.toNat : Int) ≠ 43 by omega)]; rfl
           have t8 : ((c.toNat : Int) != 45) = true := by rw [bne, beq_eq_false_iff_ne.2 (show (c.toNat : Int) ≠ 45 by omega)]; rfl
           have t9 : ((c.toNat : Int) != 46) = true := by rw [bne, beq_eq_false_iff_ne.2 (show (c.toNat : Int) ≠ 46 by omega)]; rfl
           have HE : Hid (schemeN l 0 = schemeN (l.drop (j + 1)) (j + 1)) := Lib.hid (by rw [HS.out, HD.out, schemeN_go (by rw [ne_eq, is58]; omega) (by rw [alphaC_zone, digC_zone, is43, is45, is46]; omega)])
           clear z HD HS p3
           go_wp2_with fail
           go_roundw
           case rel => exact ⟨j + 1, hlt, rfl, HE⟩
           case measure => simp; omega
         · have t0 : decide (97 <= (c.toNat : Int)) = false := decide_eq_false (by omega)
           have t1 : decide ((c.toNat : Int) <= 122) = true := decide_eq_true (by omega)
           have t2 : decide (65 <= (c.toNat : Int)) = false := decide_eq_false (by omega)
           have t3 : decide ((c.toNat : Int) <= 90) = true := decide_eq_true (by omega)
           have t4 : ((c.toNat : Int) == 58) = true := beq_iff_eq.2 (by omega)
           have t5 : decide ((c.toNat : Int) < 48) = false := decide_eq_false (by omega)
           have t6 : decide (57 < (c.toNat : Int)) = true := decide_eq_true (by omega)
           have t7 : ((c.toNat : Int) != 43) = true := by rw [bne, beq_eq_false_iff_ne.2 (show (c.toNat : Int) ≠ 43 by omega)]; rfl
           have t8 : ((c.toNat : Int) != 45) = true := by rw [bne, beq_eq_false_iff_ne.2 (show (c.toNat : Int) ≠ 45 by omega)]; rfl
           have t9 : ((c.toNat : Int) != 46) = true := by rw [bne, beq_eq_false_iff_ne.2 (show (c.toNat : Int) ≠ 46 by omega)]; rfl
           have hcc : c = 58 := (is58 c).2 (by omega)
           have HE : Hid (schemeN l 0 = j) := Lib.hid (by rw [HS.out, HD.out, hcc, schemeN_colon])
           clear z HD HS p3 hcc
           go_wp2_with fail
           go_ret
           exact ⟨ret_str (by rw [HE.out]), (Below.refl _ _).alloc (Nat.le_refl _) _⟩
         · have t0 : decide (97 <= (c.toNat : Int)) = false := decide_eq_false (by omega)
           have t1 : decide ((c.toNat : Int) <= 122) = true := decide_eq_true (by omega)
           have t2 : decide (65 <= (c.toNat : Int)) = false := decide_eq_false (by omega)
           have t3 : decide ((c.toNat : Int) <= 90) = true := decide_eq_true (by omega)
           have t4 : ((c.toNat : Int) == 58) = false := beq_eq_false_iff_ne.2 (by omega)
           have t5 : decide ((c.toNat : Int) < 48) = true := decide_eq_true (by omega)
           have t6 : decide (57 < (c.toNat : Int)) = false := decide_eq_false (by omega)
           have t7 : ((c.toNat : Int) != 43) = false := by rw [bne, beq_iff_eq.2 (show (c.toNat : Int) = 43 by omega)]; rfl
           have t8 : ((c.toNat : Int) != 45) = true := by rw [bne, beq_eq_false_iff_ne.2 (show (c.toNat : Int) ≠ 45 by omega)]; rfl
           have t9 : ((c.toNat : Int) != 46) = true := by rw [bne, beq_eq_false_iff_ne.2 (show (c.toNat : Int) ≠ 46 by omega)]; rfl
           have HE : Hid (schemeN l 0 = schemeN (l.drop (j + 1)) (j + 1)) := Lib.hid (by rw [HS.out, HD.out, schemeN_go (by rw [ne_eq, is58]; omega) (by rw [alphaC_zone, digC_zone, is43, is45, is46]; omega)])
           clear z HD HS p3
           go_wp2_with fail
           go_roundw
           case rel => exact ⟨j + 1, hlt, rfl, HE⟩
           case measure => simp; omega
         · have t0 : decide (97 <= (c.toNat : Int)) = false := decide_eq_false (by omega)
           have t1 : decide ((c.toNat : Int) <= 122) = true := decide_eq_true (by omega)
           have t2 : decide (65 <= (c.toNat : Int)) = false := decide_eq_false (by omega)
           have t3 : decide ((c.toNat : Int) <= 90) = true := decide_eq_true (by omega)
           have t4 : ((c.toNat : Int) == 58) = false := beq_eq_false_iff_ne.2 (by omega)
           have t5 : decide ((c.toNat : Int) < 48) = true := decide_eq_true (by omega)
           have t6 : decide (57 < (c.toNat : Int)) = false := decide_eq_false (by omega)
           have t7 : ((c.toNat : Int) != 43) = true := by rw [bne, beq_eq_false_iff_ne.2 (show (c.toNat : Int) ≠ 43 by omega)]; rfl
           have t8 : ((c.toNat : Int) != 45) = false := by rw [bne, beq_iff_eq.2 (show (c.toNat : Int) = 45 by omega)]; rfl
           have t9 : ((c.toNat : Int) != 46) = true := by rw [bne, beq_eq_false_iff_ne.2 (show (c.toNat : Int) ≠ 46 by omega)]; rfl
           have HE : Hid (schemeN l 0 = schemeN (l.drop (j + 1)) (j + 1)) := Lib.hid (by rw [HS.out, HD.out, schemeN_go (by rw [ne_eq, is58]; omega) (by rw [alphaC_zone, digC_zone, is43, is45, is46]; omega)])
           clear z HD HS p3
           go_wp2_with fail
           go_roundw
           case rel => exact ⟨j + 1, hlt, rfl, HE⟩
           case measure => simp; omega
         · have t0 : decide (97 <= (c.toNat : Int)) = false := decide_eq_false (by omega)
           have t1 : decide ((c.toNat : Int) <= 122) = true := decide_eq_true (by omega)
           have t2 : decide (65 <= (c.toNat : Int)) = false := decide_eq_false (by omega)
           have t3 : decide ((c.toNat : Int) <= 90) = true := decide_eq_true (by omega)
           have t4 : ((c.toNat : Int) == 58) = false := beq_eq_false_iff_ne.2 (by omega)
           have t5 : decide ((c.toNat : Int) < 48) = true := decide_eq_true (by omega)
           have t6 : decide (57 < (c.toNat : Int)) = false := decide_eq_false (by omega)
           have t7 : ((c.toNat : Int) != 43) = true := by rw [bne, beq_eq_false_iff_ne.2 (show (c.toNat : Int) ≠ 43 by omega)]; rfl
           have t8 : ((c.toNat : Int) != 45) = true := by rw [bne, beq_eq_false_iff_ne.2 (show (c.toNat : Int) ≠ 45 by omega)]; rfl
           have t9 : ((c.toNat : Int) != 46) = false := by rw [bne, beq_iff_eq.2 (show (c.toNat : Int) = 46 by omega)]; rfl
           have HE : Hid (schemeN l 0 = schemeN (l.drop (j + 1)) (j + 1)) := Lib.hid (by rw [HS.out, HD.out, schemeN_go (by rw [ne_eq, is58]; omega) (by rw [alphaC_zone, digC_zone, is43, is45, is46]; omega)])
           clear z HD HS p3
           go_wp2_with fail
           go_roundw
           case rel => exact ⟨j + 1, hlt, rfl, HE⟩
           case measure => simp; omega
         · have t0 : decide (97 <= (c.toNat : Int)) = false := decide_eq_false (by omega)
           have t1 : decide ((c.toNat : Int) <= 122) = true := decide_eq_true (by omega)
           have t2 : decide (65 <= (c.toNat : Int)) = false := decide_eq_false (by omega)
           have t3 : decide ((c.toNat : Int) <= 90) = true := decide_eq_true (by omega)
           have t4 : ((c.toNat : Int) == 58) = false := beq_eq_false_iff_ne.2 (by omega)
           have t5 : decide ((c.toNat : Int) < 48) = true := decide_eq_true (by omega)
           have t6 : decide (57 < (c.toNat : Int)) = false := decide_eq_false (by omega)
           have t7 : ((c.toNat : Int) != 43) = true := by rw [bne, beq_eq_false_iff_ne.2 (show (c.toNat : Int) ≠ 43 by omega)]; rfl
           have t8 : ((c.toNat : Int) != 45) = true := by rw [bne, beq_eq_false_iff_ne.2 (show (c.toNat : Int) ≠ 45 by omega)]; rfl
           have t9 : ((c.toNat : Int) != 46) = true := by rw [bne, beq_eq_false_iff_ne.2 (show (c.toNat : Int) ≠ 46 by omega)]; rfl
           have HE : Hid (schemeN l 0 = 0) := Lib.hid (by rw [HS.out, HD.out, schemeN_no (by rw [ne_eq, is58]; omega) (by rw [alphaC_zone, digC_zone, is43, is45, is46]; omega)])
           clear z HD HS p3
           go_wp2_with fail
           go_ret
           exact ⟨by rw [HE.out]; rfl, (Below.refl _ _).alloc (Nat.le_refl _) _⟩
         · have t0 : decide (97 <= (c.toNat : Int)) = false := decide_eq_false (by omega)
           have t1 : decide ((c.toNat : Int) <= 122) = true := decide_eq_true (by omega)
           have t2 : decide (65 <= (c.toNat : Int)) = false := decide_eq_false (by omega)
           have t3 : decide ((c.toNat : Int) <= 90) = true := decide_eq_true (by omega)
           have t4 : ((c.toNat : Int) == 58) = false := beq_eq_false_iff_ne.2 (by omega)
           have t5 : decide ((c.toNat : Int) < 48) = false := decide_eq_false (by omega)
           have t6 : decide (57 < (c.toNat : Int)) = true := decide_eq_true (by omega)
           have t7 : ((c.toNat : Int) != 43) = true := by rw [bne, beq_eq_false_iff_ne.2 (show (c.toNat : Int) ≠ 43 by omega)]; rfl
           have t8 : ((c.toNat : Int) != 45) = true := by rw [bne, beq_eq_false_iff_ne.2 (show (c.toNat : Int) ≠ 45 by omega)]; rfl
           have t9 : ((c.toNat : Int) != 46) = true := by rw [bne, beq_eq_false_iff_ne.2 (show (c.toNat : Int) ≠ 46 by omega)]; rfl
           have HE : Hid (schemeN l 0 = 0) := Lib.hid (by rw [HS.out, HD.out, schemeN_no (by rw [ne_eq, is58]; omega) (by rw [alphaC_zone, digC_zone, is43, is45, is46]; omega)])
           clear z HD HS p3
           go_wp2_with fail
           go_ret
           exact ⟨by rw [HE.out]; rfl, (Below.refl _ _).alloc (Nat.le_refl _) _⟩
         · have t0 : decide (97 <= (c.toNat : Int)) = false := decide_eq_false (by omega)
           have t1 : decide ((c.toNat : Int) <= 122) = true := decide_eq_true (by omega)
           have t2 : decide (65 <= (c.toNat : Int)) = true := decide_eq_true (by omega)
           have t3 : decide ((c.toNat : Int) <= 90) = false := decide_eq_false (by omega)
           have t4 : ((c.toNat : Int) == 58) = false := beq_eq_false_iff_ne.2 (by omega)
           have t5 : decide ((c.toNat : Int) < 48) = false := decide_eq_false (by omega)
           have t6 : decide (57 < (c.toNat : Int)) = true := decide_eq_true (by omega)
           have t7 : ((c.toNat : Int) != 43) = true := by rw [bne, beq_eq_false_iff_ne.2 (show (c.toNat : Int) ≠ 43 by omega)]; rfl
           have t8 : ((c.toNat : Int) != 45) = true := by rw [bne, beq_eq_false_iff_ne.2 (show (c.toNat : Int) ≠ 45 by omega)]; rfl
           have t9 : ((c.toNat : Int) != 46) = true := by rw [bne, beq_eq_false_iff_ne.2 (show (c.toNat : Int) ≠ 46 by omega)]; rfl
           have HE : Hid (schemeN l 0 = 0) := Lib.hid (by rw [HS.out, HD.out, schemeN_no (by rw [ne_eq, is58]; omega) (by rw [alphaC_zone, digC_zone, is43, is45, is46]; omega)])
           clear z HD HS p3
           go_wp2_with fail
           go_ret
           exact ⟨by rw [HE.out]; rfl, (Below.refl _ _).alloc (Nat.le_refl _) _⟩
         · have t0 : decide (97 <= (c.toNat : Int)) = true := decide_eq_true (by omega)
           have t1 : decide ((c.toNat : Int) <= 122) = false := decide_eq_false (by omega)
           have t2 : decide (65 <= (c.toNat : Int)) = true := decide_eq_true (by omega)
           have t3 : decide ((c.toNat : Int) <= 90) = false := decide_eq_false (by omega)
           have t4 : ((c.toNat : Int) == 58) = false := beq_eq_false_iff_ne.2 (by omega)
           have t5 : decide ((c.toNat : Int) < 48) = false := decide_eq_false (by omega)
           have t6 : decide (57 < (c.toNat : Int)) = true := decide_eq_true (by omega)
           have t7 : ((c.toNat : Int) != 43) = true := by rw [bne, beq_eq_false_iff_ne.2 (show (c.toNat : Int) ≠ 43 by omega)]; rfl
           have t8 : ((c.toNat : Int) != 45) = true := by rw [bne, beq_eq_false_iff_ne.2 (show (c.toNat : Int) ≠ 45 by omega)]; rfl
           have t9 : ((c.toNat : Int) != 46) = true := by rw [bne, beq_eq_false_iff_ne.2 (show (c.toNat : Int) ≠ 46 by omega)]; rfl
           have HE : Hid (schemeN l 0 = 0) := Lib.hid (by rw [HS.out, HD.out, schemeN_no (by rw [ne_eq, is58]; omega) (by rw [alphaC_zone, digC_zone, is43, is45, is46]; omega)])
           clear z HD HS p3
           go_wp2_with fail
           go_ret
           exact ⟨by rw [HE.out]; rfl, (Below.refl _ _).alloc (Nat.le_refl _) _⟩
       · rcases zones c with z | z | z | z | z | z | z | z | z | z | z
         · have t0 : decide (97 <= (c.toNat : Int)) = true := decide_eq_true (by omega)
           have t1 : decide ((c.toNat : Int) <= 122) = true := decide_eq_true (by omega)
           have t2 : decide (65 <= (c.toNat : Int)) = true := decide_eq_true (by omega)
           have t3 : decide ((c.toNat : Int) <= 90) = false := decide_eq_false (by omega)
           have t4 : ((c.toNat : Int) == 58) = false := beq_eq_false_iff_ne.2 (by omega)
           have t5 : decide ((c.toNat : Int) < 48) = false := decide_eq_false (by omega)
           have t6 : decide (57 < (c.toNat : Int)) = true := decide_eq_true (by omega)
           have t7 : ((c.toNat : Int) != 43) = true := by rw [bne, beq_eq_false_iff_ne.2 (show (c.toNat : Int) ≠ 43 by omega)]; rfl
           have t8 : ((c.toNat : Int) != 45) = true := by rw [bne, beq_eq_false_iff_ne.2 (show (c.toNat : Int) ≠ 45 by omega)]; rfl
           have t9 : ((c.toNat : Int) != 46) = true := by rw [bne, beq_eq_false_iff_ne.2 (show (c.toNat : Int) ≠ 46 by omega)]; rfl
           have HE : Hid (schemeN l 0 = schemeN (l.drop (j + 1)) (j + 1)) := Lib.hid (by rw [HS.out, HD.out, schemeN_go (by rw [ne_eq, is58]; omega) (by rw [alphaC_zone, digC_zone, is43, is45, is46]; omega)])
           clear z HD HS p3
           go_wp2_with fail
           go_roundw
           case rel => exact ⟨j + 1, hlt, rfl, HE⟩
           case measure => simp; omega
         · have t0 : decide (97 <= (c.toNat : Int)) = false := decide_eq_false (by omega)
           have t1 : decide ((c.toNat : Int) <= 122) = true := decide_eq_true (by omega)
           have t2 : decide (65 <= (c.toNat : Int)) = true := decide_eq_true (by omega)
           have t3 : decide ((c.toNat : Int) <= 90) = true := decide_eq_true (by omega)
           have t4 : ((c.toNat : Int) == 58) = false := beq_eq_false_iff_ne.2 (by omega)
           have t5 : decide ((c.toNat : Int) < 48) = false := decide_eq_false (by omega)
           have t6 : decide (57 < (c.toNat : Int)) = true := decide_eq_true (by omega)
           have t7 : ((c.toNat : Int) != 43) = true := by rw [bne, beq_eq_false_iff_ne.2 (show (c.toNat : Int) ≠ 43 by omega)]; rfl
           have t8 : ((c.toNat : Int) != 45) = true := by rw [bne, beq_eq_false_iff_ne.2 (show (c.toNat : Int) ≠ 45 by omega)]; rfl
           have t9 : ((c.toNat : Int) != 46) = true := by rw [bne, beq_eq_false_iff_ne.2 (show (c.toNat : Int) ≠ 46 by omega)]; rfl
           have HE : Hid (schemeN l 0 = schemeN (l.drop (j + 1)) (j + 1)) := Lib.hid (by rw [HS.out, HD.out, schemeN_go (by rw [ne_eq, is58]; omega) (by rw [alphaC_zone, digC_zone, is43, is45, is46]; omega)])
           clear z HD HS p3
           go_wp2_with fail
           go_roundw
           case rel => exact ⟨j + 1, hlt, rfl, HE⟩
           case measure => simp; omega
         · have t0 : decide (97 <= (c.toNat : Int)) = false := decide_eq_false (by omega)
           have t1 : decide ((c.toNat : Int) <= 122) = true := decide_eq_true (by omega)
           have t2 : decide (65 <= (c.toNat : Int)) = false := decide_eq_false (by omega)
           have t3 : decide ((c.toNat : Int) <= 90) = true := decide_eq_true (by omega)
           have t4 : ((c.toNat : Int) == 58) = false := beq_eq_false_iff_ne.2 (by omega)
           have t5 : decide ((c.toNat : Int) < 48) = false := decide_eq_false (by omega)
           have t6 : decide (57 < (c.toNat : Int)) = false := decide_eq_false (by omega)
           have t7 : ((c.toNat : Int) != 43) = true := by rw [bne, beq_eq_false_iff_ne.2 (show (c.toNat : Int) ≠ 43 by omega)]; rfl
           have t8 : ((c.toNat : Int) != 45) = true := by rw [bne, beq_eq_false_iff_ne.2 (show (c.toNat : Int) ≠ 45 by omega)]; rfl
           have t9 : ((c.toNat : Int) != 46) = true := by rw [bne, beq_eq_false_iff_ne.2 (show (c.toNat : Int) ≠ 46 by omega)]; rfl
           have HE : Hid (schemeN l 0 = 0) := Lib.hid (by rw [HS.out, HD.out, schemeN_no (by rw [ne_eq, is58]; omega) (by rw [alphaC_zone, digC_zone, is43, is45, is46]; omega)])
           clear z HD HS p3
           go_wp2_with fail
           go_ret
           exact ⟨by rw [HE.out]; rfl, (Below.refl _ _).alloc (Nat.le_refl _) _⟩
         · have t0 : decide (97 <= (c.toNat : Int)) = false := decide_eq_false (by omega)
           have t1 : decide ((c.toNat : Int) <= 122) = true := decide_eq_true (by omega)
           have t2 : decide (65 <= (c.toNat : Int)) = false := decide_eq_false (by omega)
           have t3 : decide ((c.toNat : Int) <= 90) = true := decide_eq_true (by omega)
           have t4 : ((c.toNat : Int) == 58) = true := beq_iff_eq.2 (by omega)
           have t5 : decide ((c.toNat : Int) < 48) = false := decide_eq_false (by omega)
           have t6 : decide (57 < (c.toNat : Int)) = true := decide_eq_true (by omega)
           have t7 : ((c.toNat : Int) != 43) = true := by rw [bne, beq_eq_false_iff_ne.2 (show (c.toNat : Int) ≠ 43 by omega)]; rfl
           have t8 : ((c.toNat : Int) != 45) = true := by rw [bne, beq_eq_false_iff_ne.2 (show (c.toNat : Int) ≠ 45 by omega)]; rfl
           have t9 : ((c.toNat : Int) != 46) = true := by rw [bne, beq_eq_false_iff_ne.2 (show (c.toNat : Int) ≠ 46 by omega)]; rfl
           have hcc : c = 58 := (is58 c).2 (by omega)
           have HE : Hid (schemeN l 0 = 0) := Lib.hid (by rw [HS.out, HD.out, hcc, schemeN_colon, p3])
           clear z HD HS p3 hcc
           go_wp2_with fail
           go_ret
           exact ⟨by rw [HE.out]; rfl, (Below.refl _ _).alloc (Nat.le_refl _) _⟩
         · have t0 : decide (97 <= (c.toNat : Int)) = false := decide_eq_false (by omega)
           have t1 : decide ((c.toNat : Int) <= 122) = true := decide_eq_true (by omega)
           have t2 : decide (65 <= (c.toNat : Int)) = false := decide_eq_false (by omega)
           have t3 : decide ((c.toNat : Int) <= 90) = true := decide_eq_true (by omega)
           have t4 : ((c.toNat : Int) == 58) = false := beq_eq_false_iff_ne.2 (by omega)
           have t5 : decide ((c.toNat : Int) < 48) = true := decide_eq_true (by omega)
           have t6 : decide (57 < (c.toNat : Int)) = false := decide_eq_false (by omega)
           have t7 : ((c.toNat : Int) != 43) = false := by rw [bne, beq_iff_eq.2 (show (c.toNat : Int) = 43 by omega)]; rfl
           have t8 : ((c.toNat : Int) != 45) = true := by rw [bne, beq_eq_false_iff_ne.2 (show (c.toNat : Int) ≠ 45 by omega)]; rfl
           have t9 : ((c.toNat : Int) != 46) = true := by rw [bne, beq_eq_false_iff_ne.2 (show (c.toNat : Int) ≠ 46 by omega)]; rfl
           have HE : Hid (schemeN l 0 = 0) := Lib.hid (by rw [HS.out, HD.out, schemeN_no (by rw [ne_eq, is58]; omega) (by rw [alphaC_zone, digC_zone, is43, is45, is46]; omega)])
           clear z HD HS p3
           go_wp2_with fail
           go_ret
           exact ⟨by rw [HE.out]; rfl, (Below.refl _ _).alloc (Nat.le_refl _) _⟩
         · have t0 : decide (97 <= (c.toNat : Int)) = false := decide_eq_false (by omega)
           have t1 : decide ((c.toNat : Int) <= 122) = true := decide_eq_true (by omega)
           have t2 : decide (65 <= (c.toNat : Int)) = false := decide_eq_false (by omega)
           have t3 : decide ((c.toNat : Int) <= 90) = true := decide_eq_true (by omega)
           have t4 : ((c.toNat : Int) == 58) = false := beq_eq_false_iff_ne.2 (by omega)
           have t5 : decide ((c.toNat : Int) < 48) = true := decide_eq_true (by omega)
           have t6 : decide (57 < (c.toNat : Int)) = false := decide_eq_false (by omega)
           have t7 : ((c.toNat : Int) != 43) = true := by rw [bne, beq_eq_false_iff_ne.2 (show (c.toNat : Int) ≠ 43 by omega)]; rfl
           have t8 : ((c.toNat : Int) != 45) = false := by rw [bne, beq_iff_eq.2 (show (c.toNat : Int) = 45 by omega)]; rfl
           have t9 : ((c.toNat : Int) != 46) = true := by rw [bne, beq_eq_false_iff_ne.2 (show (c.toNat : Int) ≠ 46 by omega)]; rfl
           have HE : Hid (schemeN l 0 = 0) := Lib.hid (by rw [HS.out, HD.out, schemeN_no (by rw [ne_eq, is58]; omega) (by rw [alphaC_zone, digC_zone, is43, is45, is46]; omega)])
           clear z HD HS p3
           go_wp2_with fail
           go_ret
           exact ⟨by rw [HE.out]; rfl, (Below.refl _ _).alloc (Nat.le_refl _) _⟩
         · have t0 : decide (97 <= (c.toNat : Int)) = false := decide_eq_false (by omega)
           have t1 : decide ((c.toNat : Int) <= 122) = true := decide_eq_true (by omega)
           have t2 : decide (65 <= (c.toNat : Int)) = false := decide_eq_false (by omega)
           have t3 : decide ((c.toNat : Int) <= 90) = true := decide_eq_true (by omega)
           have t4 : ((c.toNat : Int) == 58) = false := beq_eq_false_iff_ne.2 (by omega)
           have t5 : decide ((c.toNat : Int) < 48) = true := decide_eq_true (by omega)
           have t6 : decide (57 < (c.toNat : Int)) = false := decide_eq_false (by omega)
           have t7 : ((c.toNat : Int) != 43) = true := by rw [bne, beq_eq_false_iff_ne.2 (show (c.toNat : Int) ≠ 43 by omega)]; rfl
           have t8 : ((c.toNat : Int) != 45) = true := by rw [bne, beq_eq_false_iff_ne.2 (show (c.toNat : Int) ≠ 45 by omega)]; rfl
           have t9 : ((c.toNat : Int) != 46) = false := by rw [bne, beq_iff_eq.2 (show (c.toNat : Int) = 46 by omega)]; rfl
           have HE : Hid (schemeN l 0 = 0) := Lib.hid (by rw [HS.out, HD.out, schemeN_no (by rw [ne_eq, is58]; omega) (by rw [alphaC_zone, digC_zone, is43, is45, is46]; omega)])
           clear z HD HS p3
           go_wp2_with fail
           go_ret
           exact ⟨by rw [HE.out]; rfl, (Below.refl _ _).alloc (Nat.le_refl _) _⟩
         · have t0 : decide (97 <= (c.toNat : Int)) = false := decide_eq_false (by omega)
           have t1 : decide ((c.toNat : Int) <= 122) = true := decide_eq_true (by omega)
           have t2 : decide (65 <= (c.toNat : Int)) = false := decide_eq_false (by omega)
           have t3 : decide ((c.toNat : Int) <= 90) = true := decide_eq_true (by omega)
           have t4 : ((c.toNat : Int) == 58) = false := beq_eq_false_iff_ne.2 (by omega)
           have t5 : decide ((c.toNat : Int) < 48) = true := decide_eq_true (by omega)
           have t6 : decide (57 < (c.toNat : Int)) = false := decide_eq_false (by omega)
           have t7 : ((c.toNat : Int) != 43) = true := by rw [bne, beq_eq_false_iff_ne.2 (show (c.toNat : Int) ≠ 43 by omega)]; rfl
           have t8 : ((c.toNat : Int) != 45) = true := by rw [bne, beq_eq_false_iff_ne.2 (show (c.toNat : Int) ≠ 45 by omega)]; rfl
           have t9 : ((c.toNat : Int) != 46) = true := by rw [bne, beq_eq_false_iff_ne.2 (show (c.toNat : Int) ≠ 46 by omega)]; rfl
           have HE : Hid (schemeN l 0 = 0) := Lib.hid (by rw [HS.out, HD.out, schemeN_no (by rw [ne_eq, is58]; omega) (by rw [alphaC_zone, digC_zone, is43, is45, is46]; omega)])
           clear z HD HS p3
           go_wp2_with fail
           go_ret
           exact ⟨by rw [HE.out]; rfl, (Below.refl _ _).alloc (Nat.le_refl _) _⟩
         · have t0 : decide (97 <= (c.toNat : Int)) = false := decide_eq_false (by omega)
           have t1 : decide ((c.toNat : Int) <= 122) = true := decide_eq_true (by omega)
           have t2 : decide (65 <= (c.toNat : Int)) = false := decide_eq_false (by omega)
           have t3 : decide ((c.toNat : Int) <= 90) = true := decide_eq_true (by omega)
           have t4 : ((c.toNat : Int) == 58) = false := beq_eq_false_iff_ne.2 (by omega)
           have t5 : decide ((c.toNat : Int) < 48) = false := decide_eq_false (by omega)
           have t6 : decide (57 < (c.toNat : Int)) = true := decide_eq_true (by omega)
           have t7 : ((c.toNat : Int) != 43) = true := by rw [bne, beq_eq_false_iff_ne.2 (show (c.toNat : Int) ≠ 43 by omega)]; rfl
           have t8 : ((c.toNat : Int) != 45) = true := by rw [bne, beq_eq_false_iff_ne.2 (show (c.toNat : Int) ≠ 45 by omega)]; rfl
           have t9 : ((c.toNat : Int) != 46) = true := by rw [bne, beq_eq_false_iff_ne.2 (show (c.toNat : Int) ≠ 46 by omega)]; rfl
           have HE : Hid (schemeN l 0 = 0) := Lib.hid (by rw [HS.out, HD.out, schemeN_no (by rw [ne_eq, is58]; omega) (by rw [alphaC_zone, digC_zone, is43, is45, is46]; omega)])
           clear z HD HS p3
           go_wp2_with fail
           go_ret
           exact ⟨by rw [HE.out]; rfl, (Below.refl _ _).alloc (Nat.le_refl _) _⟩
         · have t0 : decide (97 <= (c.toNat : Int)) = false := decide_eq_false (by omega)
           have t1 : decide ((c.toNat : Int) <= 122) = true := decide_eq_true (by omega)
           have t2 : decide (65 <= (c.toNat : Int)) = true := decide_eq_true (by omega)
           have t3 : decide ((c.toNat : Int) <= 90) = false := decide_eq_false (by omega)
           have t4 : ((c.toNat : Int) == 58) = false := beq_eq_false_iff_ne.2 (by omega)
           have t5 : decide ((c.toNat : Int) < 48) = false := decide_eq_false (by omega)
           have t6 : decide (57 < (c.toNat : Int)) = true := decide_eq_true (by omega)
           have t7 : ((c.toNat : Int) != 43) = true := by rw [bne, beq_eq_false_iff_ne.2 (show (c.toNat : Int) ≠ 43 by omega)]; rfl
           have t8 : ((c.toNat : Int) != 45) = true := by rw [bne, beq_eq_false_iff_ne.2 (show (c.toNat : Int) ≠ 45 by omega)]; rfl
           have t9 : ((c.toNat : Int) != 46) = true := by rw [bne, beq_eq_false_iff_ne.2 (show (c.toNat : Int) ≠ 46 by omega)]; rfl
           have HE : Hid (schemeN l 0 = 0) := Lib.hid (by rw [HS.out, HD.out, schemeN_no (by rw [ne_eq, is58]; omega) (by rw [alphaC_zone, digC_zone, is43, is45, is46]; omega)])
           clear z HD HS p3
           go_wp2_with fail
           go_ret
           exact ⟨by rw [HE.out]; rfl, (Below.refl _ _).alloc (Nat.le_refl _) _⟩
         · have t0 : decide (97 <= (c.toNat : Int)) = true := decide_eq_true (by omega)
           have t1 : decide ((c.toNat : Int) <= 122) = false := decide_eq_false (by omega)
           have t2 : decide (65 <= (c.toNat : Int)) = true := decide_eq_true (by omega)
           have t3 : decide ((c.toNat : Int) <= 90) = false := decide_eq_false (by omega)
           have t4 : ((c.toNat : Int) == 58) = false := beq_eq_false_iff_ne.2 (by omega)
           have t5 : decide ((c.toNat : Int) < 48) = false := decide_eq_false (by omega)
           have t6 : decide (57 < (c.toNat : Int)) = true := decide_eq_true (by omega)
           have t7 : ((c.toNat : Int) != 43) = true := by rw [bne, beq_eq_false_iff_ne.2 (show (c.toNat : Int) ≠ 43 by omega)]; rfl
           have t8 : ((c.toNat : Int) != 45) = true := by rw [bne, beq_eq_false_iff_ne.2 (show (c.toNat : Int) ≠ 45 by omega)]; rfl
           have t9 : ((c.toNat : Int) != 46) = true := by rw [bne, beq_eq_false_iff_ne.2 (show (c.toNat : Int) ≠ 46 by omega)]; rfl
           have HE : Hid (schemeN l 0 = 0) := Lib.hid (by rw [HS.out, HD.out, schemeN_no (by rw [ne_eq, is58]; omega) (by rw [alphaC_zone, digC_zone, is43, is45, is46]; omega)])
           clear z HD HS p3
           go_wp2_with fail
           go_ret
           exact ⟨by rw [HE.out]; rfl, (Below.refl _ _).alloc (Nat.le_refl _) _⟩
     · obtain ⟨r, n, hr, hnx⟩ := next_high (P := Tryz.prog) w l j 0 hlt ha
       have hnx2 : ∀ ty, (Instr.next (.pointer (some ⟨w.heap.size, 0, none⟩)) true ty).run Tryz.prog (w.iter (B l) j) = .ok (.tuple #[.bool true, .int .i64 (j : Int), .int .i32 (r : Int)]) (w.iter (B l) n) := fun _ => hnx
       have t0 : decide (97 <= (r : Int)) = true := decide_eq_true (by omega)
       have t1 : decide ((r : Int) <= 122) = false := decide_eq_false (by omega)
       have t2 : decide (65 <= (r : Int)) = true := decide_eq_true (by omega)
       have t3 : decide ((r : Int) <= 90) = false := decide_eq_false (by omega)
       have t4 : ((r : Int) == 58) = false := beq_eq_false_iff_ne.2 (by omega)
       have t5 : decide ((r : Int) < 48) = false := decide_eq_false (by omega)
       have t6 : decide (57 < (r : Int)) = true := decide_eq_true (by omega)
       have t7 : ((r : Int) != 43) = true := by rw [bne, beq_eq_false_iff_ne.2 (show (r : Int) ≠ 43 by omega)]; rfl
       have t8 : ((r : Int) != 45) = true := by rw [bne, beq_eq_false_iff_ne.2 (show (r : Int) ≠ 45 by omega)]; rfl
       have t9 : ((r : Int) != 46) = true := by rw [bne, beq_eq_false_iff_ne.2 (show (r : Int) ≠ 46 by omega)]; rfl
       have HE : Hid (schemeN l 0 = 0) := Lib.hid (by rw [HS.out, HD.out, schemeN_no (by rw [ne_eq, is58]; omega) (by rw [alphaC_zone, digC_zone, is43, is45, is46]; omega)])
       clear HD HS ha hnx
       rcases hj0 with ⟨p1, p2, p3⟩ | ⟨p1, p2, p3⟩
       all_goals
         clear p3
         go_wp2_with fail
         go_ret
         exact ⟨by rw [HE.out]; rfl, (Below.refl _ _).alloc (Nat.le_refl _) _⟩
   · obtain rfl : j = l.length := by omega
     have hnx := fun ty => next_end (P := Tryz.prog) w l ty
     have HE : Hid (schemeN l 0 = 0) := Lib.hid (by rw [HS.out, List.drop_length]; rfl)
     clear HS
     go_wp2_with fail
     go_ret
     exact ⟨by rw [HE.out]; rfl, (Below.refl _ _).alloc (Nat.le_refl _) _⟩
set_option maxHeartbeats 1600000 in
theorem reference_l (l : List UInt8) (w : World) (hl : l.length <= 140737488351232) :
   Calls Tryz.prog 133 #[.string (B l)] w fun e w' => e = .returned (.int .i64 (refN l)) /\ Below w.heap.size w w' := by
 have UC := Lib.hid (fun u => utfCheck_l l u (by omega))
 have IX := Lib.hid (indexBarred_l l)
 by_cases h1 : 65536 < l.length
 · have HE : Hid (refN l = 2) := Lib.hid (by unfold refN; rw [if_pos h1])
   go_enter Tryz.func133, Tryz.ntmps133
   go_wp2_with fail
   go_ret
   exact ⟨ret_i64 HE.out.symm, Below.refl _ _⟩
 obtain ⟨k, hk⟩ : ∃ k, utfF l 0 = k := ⟨_, rfl⟩
 rw [hk] at UC
 by_cases h2 : 0 <= k
 · have HE : Hid (refN l = 40) := Lib.hid (by unfold refN; rw [if_neg h1, if_pos (by rw [hk]; exact h2)])
   have q2 : decide (0 <= k) = true := decide_eq_true h2
   clear hk
   go_enter Tryz.func133, Tryz.ntmps133
   go_wp2_with (go_at_call 136; (with_reducible refine (UC.out _).mono ?_); rintro e w1 ⟨rfl, rfl⟩)
   go_ret
   exact ⟨ret_i64 HE.out.symm, Below.refl _ _⟩
 have q2 : decide (0 <= k) = false := decide_eq_false h2
 cases h3 : l.any barC with
 | true =>
   have HE : Hid (refN l = 50) := Lib.hid (by unfold refN; rw [if_neg h1, if_neg (by rw [hk]; exact h2), if_pos h3])
   rw [h3] at IX
   clear hk h3
   go_enter Tryz.func133, Tryz.ntmps133
   go_wp2_with (first | (go_at_call 136; (with_reducible refine (UC.out _).mono ?_); rintro e w1 ⟨rfl, rfl⟩) | (go_at_call 171; (with_reducible refine (IX.out _).mono ?_); rintro e w2 ⟨⟨n, rfl, hn⟩, hb2⟩))
   go_ret
   exact ⟨ret_i64 HE.out.symm, hb2⟩
 | false =>
   have HE : Hid (refN l = 0) := Lib.hid (by unfold refN; rw [if_neg h1, if_neg (by rw [hk]; exact h2), h3]; rfl)
   rw [h3] at IX
   clear hk h3
   go_enter Tryz.func133, Tryz.ntmps133
   go_wp2_with (first | (go_at_call 136; (with_reducible refine (UC.out _).mono ?_); rintro e w1 ⟨rfl, rfl⟩) | (go_at_call 171; (with_reducible refine (IX.out _).mono ?_); rintro e w2 ⟨⟨n, rfl, hn⟩, hb2⟩))
   go_ret
   exact ⟨ret_i64 HE.out.symm, hb2⟩
theorem scheme_le : ∀ (l : List UInt8) (i : Nat), schemeN l i <= i + l.length
 | [], i => by simp [schemeN]
 | c :: r, i => by
   have := scheme_le r (i + 1)
   rw [schemeN]
   split
   · simp
   · split
     · simp at this ⊢; omega
     · simp
set_option maxHeartbeats 1600000 in
theorem iriCheck_l (l : List UInt8) (w : World) (hl : l.length <= 140737488351232) :
   Calls Tryz.prog 102 #[.string (B l)] w fun e w' => e = .returned (.int .i64 (iriN l)) /\ Below w.heap.size w w' := by
 have RE := Lib.hid (fun u => reference_l l u hl)
 have SC := Lib.hid (fun u => scheme_l l u hl)
 by_cases h1 : refN l = 0
 · have q1 : ((0 : Int) != 0) = false := rfl
   rw [h1] at RE
   have hle := scheme_le l 0
   by_cases h2 : schemeN l 0 = 0
   · have HE : Hid (iriN l = 51) := Lib.hid (by unfold iriN; rw [if_neg (fun x => x h1), if_pos h2])
     have he : (l.take (schemeN l 0)).isEmpty = true := by rw [h2]; rfl
     have he2 : (l.take (schemeN l 0) == []) = true := by rw [h2]; rfl
     obtain ⟨s, hs⟩ : ∃ s, l.take (schemeN l 0) = s := ⟨_, rfl⟩
     rw [hs] at SC he he2
     clear hs h1 h2 hle
     go_enter Tryz.func102, Tryz.ntmps102
     go_wp2_with (first | (go_at_call 133; (with_reducible refine (RE.out _).mono ?_); rintro e w1 ⟨rfl, hb1⟩) | (go_at_call 134; (with_reducible refine (SC.out _).mono ?_); rintro e w2 ⟨rfl, hb2⟩))
     go_ret
     exact ⟨ret_i64 HE.out.symm, hb1.trans (hb2.mono hb1.size)⟩
   · have HE : Hid (iriN l = 0) := Lib.hid (by unfold iriN; rw [if_neg (fun x => x h1), if_neg h2])
     have hne : l.take (schemeN l 0) ≠ [] := fun e => by have := congrArg List.length e; rw [List.length_take] at this; simp only [List.length_nil] at this; omega
     have he : (l.take (schemeN l 0)).isEmpty = false := by rw [List.isEmpty_eq_false_iff]; exact hne
     have he2 : (l.take (schemeN l 0) == []) = false := beq_eq_false_iff_ne.2 hne
     obtain ⟨s, hs⟩ : ∃ s, l.take (schemeN l 0) = s := ⟨_, rfl⟩
     rw [hs] at SC he he2
     clear hs h1 h2 hle hne
     go_enter Tryz.func102, Tryz.ntmps102
     go_wp2_with (first | (go_at_call 133; (with_reducible refine (RE.out _).mono ?_); rintro e w1 ⟨rfl, hb1⟩) | (go_at_call 134; (with_reducible refine (SC.out _).mono ?_); rintro e w2 ⟨rfl, hb2⟩))
     go_ret
     exact ⟨ret_i64 HE.out.symm, hb1.trans (hb2.mono hb1.size)⟩
 · have HE : Hid (iriN l = refN l) := Lib.hid (by unfold iriN; rw [if_pos h1])
   obtain ⟨k, hk⟩ : ∃ k, refN l = k := ⟨_, rfl⟩
   rw [hk] at RE HE h1
   have q1 : (k != 0) = true := by rw [bne, beq_eq_false_iff_ne.2 h1]; rfl
   clear h1 hk
   go_enter Tryz.func102, Tryz.ntmps102
   go_wp2_with (go_at_call 133; (with_reducible refine (RE.out _).mono ?_); rintro e w1 ⟨rfl, hb1⟩)
   go_ret
   exact ⟨ret_i64 HE.out.symm, hb1⟩
end Go.Proofs.YtmnigckpejcaeaaGreatDoor
