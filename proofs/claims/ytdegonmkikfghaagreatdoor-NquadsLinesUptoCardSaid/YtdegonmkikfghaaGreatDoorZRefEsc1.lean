/-
  tesseraref04: digits, hex, number: contracts. By an AI agent.
-/
import Derived.Test.YtdegonmkikfghaaGreatDoorZEscW
import Derived.Test.YtdegonmkikfghaaGreatDoorZGUtf
import Derived.BigQuiet
import Derived.WalkSmall
import Derived.Test.YtdegonmkikfghaaGreatDoorZEscW2
import Derived.Test.YtdegonmkikfghaaGreatDoorZGSpell
import Derived.Test.YtdegonmkikfghaaGreatDoorZBOwn
import Derived.Test.YtdegonmkikfghaaGreatDoorZEscBack0
namespace Go.Proofs.YtdegonmkikfghaaGreatDoor
open Go.RowKit
set_option maxRecDepth 100000
def digN (r : Nat) : Nat -> Nat × List UInt8
 | 0 => (r, [])
 | k + 1 => ((digN r k).1 / 16, hexU ((digN r k).1 % 16) :: (digN r k).2)
theorem digN_4 (r : Nat) : (digN r 4).2 = digs4 r := by
 simp only [digN, digs4, Nat.div_div_eq_div_mul]
theorem hexS_cut (a : Nat) (h : a < 16) : ∀ v, (Instr.slice 9 (.string ⟨#[48, 49, 50, 51, 52, 53, 54, 55, 56, 57, 65, 66, 67, 68, 69, 70]⟩) (some (.int .i64 (a : Int))) (some (.int .i64 ((a : Int) + 1))) none).run Tryz.prog v = .ok (.string (B [hexU a])) v := by
 have h16 : a = 0 \/ a = 1 \/ a = 2 \/ a = 3 \/ a = 4 \/ a = 5 \/ a = 6 \/ a = 7 \/ a = 8 \/ a = 9 \/ a = 10 \/ a = 11 \/ a = 12 \/ a = 13 \/ a = 14 \/ a = 15 := by omega
 rcases h16 with rfl | rfl | rfl | rfl | rfl | rfl | rfl | rfl | rfl | rfl | rfl | rfl | rfl | rfl | rfl | rfl <;> (intro v; kernel_rfl)
set_option maxHeartbeats 1600000 in
theorem refDigits_l (r : Nat) (w : World) (h : r < 4611686018427387904) :
   Calls Tryz.prog 138 #[.int .i64 (r : Int), .int .i64 4] w fun e w' => e = .returned (.string (B (digs4 r))) /\ Below w.heap.size w w' := by
 have HE := Lib.hid (digN_4 r)
 have HH := Lib.hid h
 have hb : Below w.heap.size w w := Below.refl _ _
 clear h
 go_enter Tryz.func138, Tryz.ntmps138
 go_wp2_with fail
 go_loopw [0, 5, 6] (fun a s i wr => ∃ (k x : Nat) (l : List UInt8), k <= 4 /\ x < 4611686018427387904 /\ digN r k = (x, l) /\ a = .int .i64 (x : Int) /\ s = .string (B l) /\ l.length = k /\ i = .int .i64 (k : Int) /\ Below w.heap.size w wr) (fun _ _ i _ => 4 - (intOf i).toNat)
 case atStart => exact ⟨0, r, [], by omega, HH.out, rfl, rfl, rfl, rfl, rfl, hb⟩
 case round =>
   obtain ⟨k, x, l, hk, hx, hd, rfl, rfl, hl, rfl, hb⟩ := hrel
   have HB := Lib.hid hb
   have HD := Lib.hid hd
   clear hb hd
   by_cases hlt : k < 4
   · have q9 : decide ((k : Int) < 4) = true := decide_eq_true (by omega)
     have sl := hexS_cut (x % 16) (by omega)
     rw [show ((x % 16 : Nat) : Int) = (x : Int) % 16 by omega] at sl
     have HS : Hid (digN r (k + 1) = (x / 16, hexU (x % 16) :: l)) := Lib.hid (by rw [digN, HD.out])
     go_wp2_with fail
     go_roundw
     case rel => exact ⟨k + 1, x / 16, hexU (x % 16) :: l, by omega, by omega, HS.out, by go_num, by simp, by simp; omega, by go_num, by first | exact HB.out | exact below_drewN HB.out _⟩
     case measure => simp [intOf]; omega
   · have HEE : Hid (digs4 r = l) := Lib.hid (by have := HD.out; rw [show k = 4 by omega] at this; rw [<- HE.out, this])
     have q9 : decide ((k : Int) < 4) = false := decide_eq_false (by omega)
     go_wp2_with fail
     go_ret
     exact ⟨by rw [HEE.out]; rfl, HB.out⟩
theorem refHex_l (c : UInt8) (w : World) : Calls Tryz.prog 251 #[.int .u8 (c.toNat : Int)] w fun e w' => e = .returned (.int .i64 (hexI c)) /\ w' = w := by
 have hc := c.toNat_lt
 by_cases a : 48 <= c.toNat /\ c.toNat <= 57
 · have HF : Hid (hexI c = (c.toNat : Int) - 48) := Lib.hid (by unfold hexI hexV; rw [if_pos a]; simp only; omega)
   obtain ⟨a1, a2⟩ := a
   go_enter Tryz.func251, Tryz.ntmps251
   go_wp2
   go_ret
   exact ⟨ret_i64 (by have := HF.out; omega), rfl⟩
 by_cases b : 97 <= c.toNat /\ c.toNat <= 102
 · have HF : Hid (hexI c = (c.toNat : Int) - 87) := Lib.hid (by unfold hexI hexV; rw [if_neg a, if_pos b]; simp only; omega)
   clear a
   obtain ⟨b1, b2⟩ := b
   go_enter Tryz.func251, Tryz.ntmps251
   go_wp2
   go_ret
   exact ⟨ret_i64 (by have := HF.out; omega), rfl⟩
 by_cases d : 65 <= c.toNat /\ c.toNat <= 70
 · have HF : Hid (hexI c = (c.toNat : Int) - 55) := Lib.hid (by unfold hexI hexV; rw [if_neg a, if_neg b, if_pos d]; simp only; omega)
   clear a b
   obtain ⟨d1, d2⟩ := d
   go_enter Tryz.func251, Tryz.ntmps251
   go_wp2
   go_ret
   exact ⟨ret_i64 (by have := HF.out; omega), rfl⟩
 · have HF : Hid (hexI c = -1) := Lib.hid (by unfold hexI hexV; rw [if_neg a, if_neg b, if_neg d])
   go_enter Tryz.func251, Tryz.ntmps251
   go_wp2
   all_goals first | omega | (go_ret; exact ⟨ret_i64 HF.out.symm, rfl⟩)
def numI : Option Int -> Int
 | none => -1
 | some r => r
theorem numI_none {t : List UInt8} {k : Nat} (h : numF t k = none) : Ending.returned (.int .i64 (numI (numF t k))) = .returned (.int .i64 (-1)) := by rw [h]; rfl
theorem numI_some {t : List UInt8} {k : Nat} {x : Int} (h : numF t k = some x) : Ending.returned (.int .i64 (numI (numF t k))) = .returned (.int .i64 x) := by rw [h]; rfl
set_option maxHeartbeats 1600000 in
theorem refNumber_l (l : List UInt8) (i k : Nat) (w : World) (hk : k <= 8) (hl : l.length <= 4611686018427387904) (hi : i <= l.length) :
   Calls Tryz.prog 244 #[.string (B l), .int .i64 (i : Int), .int .i64 (k : Int)] w fun e w' => e = .returned (.int .i64 (numI (numF (l.drop i) k))) /\ Below w.heap.size w w' := by
 have HX := Lib.hid refHex_l; have SC := Lib.hid refScalar_any
 have hb : Below w.heap.size w w := Below.refl _ _
 go_enter Tryz.func244, Tryz.ntmps244
 go_wp2_with fail
 go_loopw [7, 8] (fun a z wr => ∃ acc j : Nat, j <= k /\ acc < 16 ^ j /\ i + j <= l.length /\ a = .int .i64 acc /\ z = .int .i64 j /\ Hid (numV 0 (l.drop i) k = numV acc (l.drop (i + j)) (k - j)) /\ Below w.heap.size w wr) (fun _ z _ => k - (intOf z).toNat)
 case atStart => exact ⟨0, 0, Nat.zero_le _, by decide, hi, rfl, rfl, Lib.hid rfl, hb⟩
 case round =>
   obtain ⟨acc, j, hj, ha, hil, rfl, rfl, HN, hb⟩ := hrel
   have hp : 16 ^ j <= 16 ^ 8 := Nat.pow_le_pow_right (by decide) (by omega)
   have ha8 : acc < 4294967296 := Nat.lt_of_lt_of_le ha hp
   have HA := Lib.hid ha
   have HB := Lib.hid hb
   clear ha hp hb
   by_cases hlt : j < k
   · have q12 : decide ((j : Int) < (k : Int)) = true := decide_eq_true (by omega)
     obtain ⟨m, hm⟩ : ∃ m, k - j = m + 1 := ⟨k - j - 1, by omega⟩
     by_cases hend : l.length <= i + j
     · have e1 : decide ((l.length : Int) <= (i : Int) + (j : Int)) = true := decide_eq_true (by omega)
       have HE := Lib.hid (numI_none (numF_none (HN.out.trans (by rw [List.drop_eq_nil_of_le hend, hm, numV]))))
       clear HN HX hm
       go_wp2_with fail
       go_ret
       exact ⟨HE.out.symm, HB.out⟩
     · have hjl : i + j < l.length := by omega
       have e1 : decide ((l.length : Int) <= (i : Int) + (j : Int)) = false := decide_eq_false (by omega)
       have st := numV_step (acc := acc) (n := m) hjl
       rw [<- hm] at st
       cases hd : hexV l[i + j] with
       | none =>
         have HE := Lib.hid (numI_none (numF_none (HN.out.trans (by rw [st, hd]))))
         have N2 := Lib.hid (fun u => hexI_none hd ▸ HX.out l[i + j] u)
         clear st hd HN HX hm
         go_wp2_with (go_at_call 251; (with_reducible refine (N2.out _).mono ?_); rintro e w1 ⟨rfl, rfl⟩)
         go_ret
         exact ⟨HE.out.symm, HB.out⟩
       | some d =>
         have hd16 := hexV_lt hd
         have HE : Hid (numV 0 (l.drop i) k = numV (acc * 16 + d) (l.drop (i + (j + 1))) (k - (j + 1))) := Lib.hid (HN.out.trans (by rw [st, hd, show k - (j + 1) = m by omega, Nat.add_assoc]))
         have N2 := Lib.hid (fun u => hexI_some hd ▸ HX.out l[i + j] u)
         have d0 : ((d : Int) < 0) = False := by simp
         clear st hd HN HX hm
         go_wp2_with (go_at_call 251; (with_reducible refine (N2.out _).mono ?_); rintro e w1 ⟨rfl, rfl⟩)
         go_roundw
         case rel =>
           refine ⟨acc * 16 + d, j + 1, by omega, ?_, by omega, by go_num, by go_num, HE, HB.out⟩
           rw [Nat.pow_succ]
           have := HA.out
           omega
         case measure => simp [intOf]; omega
   · obtain rfl : j = k := by omega
     have q12 : decide ((j : Int) < (j : Int)) = false := decide_eq_false (by omega)
     have HE := Lib.hid (numF_of (HN.out.trans (by rw [Nat.sub_self, numV])))
     clear HN
     cases hsc : scal (acc : Int) with
     | true =>
       have H3 := Lib.hid (numI_some (HE.out.trans (if_pos hsc)))
       have N3 := Lib.hid (fun u => hsc ▸ SC.out (acc : Int) u)
       clear HE hsc SC
       go_wp2_with (go_at_call 175; (with_reducible refine (N3.out _).mono ?_); rintro e w1 ⟨rfl, rfl⟩)
       go_ret
       exact ⟨H3.out.symm, HB.out⟩
     | false =>
       have H3 := Lib.hid (numI_none (HE.out.trans (if_neg (by rw [hsc]; exact Bool.false_ne_true))))
       have N3 := Lib.hid (fun u => hsc ▸ SC.out (acc : Int) u)
       clear HE hsc SC
       go_wp2_with (go_at_call 175; (with_reducible refine (N3.out _).mono ?_); rintro e w1 ⟨rfl, rfl⟩)
       go_ret
       exact ⟨H3.out.symm, HB.out⟩
end Go.Proofs.YtdegonmkikfghaaGreatDoor
namespace Go.Proofs.YtdegonmkikfghaaGreatDoor
open Go.RowKit
set_option maxRecDepth 100000
def fromQ (k : Nat) : UInt8 := [8, 9, 10, 12, 13, 34, 92].getD k 0
def toQ (k : Nat) : UInt8 := [98, 116, 110, 102, 114, 34, 92].getD k 0
def noA (k : Nat) : UInt8 := [60, 62, 34, 123, 125, 124, 94, 96, 92].getD k 0
def fromE (k : Nat) : UInt8 := [116, 98, 110, 114, 102, 34, 39, 92].getD k 0
def toE (k : Nat) : UInt8 := [9, 8, 10, 13, 12, 34, 39, 92].getD k 0
theorem fromQ_at : ∀ (n : Nat) (h : n < 7), ({ data := #[8, 9, 10, 12, 13, 34, 92] } : ByteArray)[n]'h = fromQ n := by decide
theorem noA_at : ∀ (n : Nat) (h : n < 9), ({ data := #[60, 62, 34, 123, 125, 124, 94, 96, 92] } : ByteArray)[n]'h = noA n := by decide
theorem fromE_at : ∀ (n : Nat) (h : n < 8), ({ data := #[116, 98, 110, 114, 102, 34, 39, 92] } : ByteArray)[n]'h = fromE n := by decide
theorem toE_at : ∀ (n : Nat) (h : n < 8), ({ data := #[9, 8, 10, 13, 12, 34, 39, 92] } : ByteArray)[n]'h = toE n := by decide
theorem toQ_cut (a : Nat) (h : a < 7) : ∀ v, (Instr.slice 9 (.string ⟨#[98, 116, 110, 102, 114, 34, 92]⟩) (some (.int .i64 (a : Int))) (some (.int .i64 ((a : Int) + 1))) none).run Tryz.prog v = .ok (.string (B [toQ a])) v := by
 have h7 : a = 0 \/ a = 1 \/ a = 2 \/ a = 3 \/ a = 4 \/ a = 5 \/ a = 6 := by omega
 rcases h7 with rfl | rfl | rfl | rfl | rfl | rfl | rfl <;> (intro v; kernel_rfl)
theorem letF_hit {k : Nat} (h : k < 7) : letF ((fromQ k).toNat : Int) = some (toQ k) := by
 have h7 : k = 0 \/ k = 1 \/ k = 2 \/ k = 3 \/ k = 4 \/ k = 5 \/ k = 6 := by omega
 rcases h7 with rfl | rfl | rfl | rfl | rfl | rfl | rfl <;> decide
theorem letF_miss {r : Int} (h : ∀ j, j < 7 -> ((fromQ j).toNat : Int) ≠ r) : letF r = none := by
 have h0 := h 0 (by omega); have h1 := h 1 (by omega); have h2 := h 2 (by omega); have h3 := h 3 (by omega); have h4 := h 4 (by omega); have h5 := h 5 (by omega); have h6 := h 6 (by omega)
 simp [fromQ] at h0 h1 h2 h3 h4 h5 h6
 unfold letF
 rw [if_neg (fun e => h1 e.symm), if_neg (fun e => h0 e.symm), if_neg (fun e => h2 e.symm), if_neg (fun e => h4 e.symm), if_neg (fun e => h3 e.symm), if_neg (fun e => h5 e.symm), if_neg (fun e => h6 e.symm)]
theorem meantF_hit {k : Nat} (h : k < 8) : meantF (fromE k) = some ((toE k).toNat : Int) := by
 have h7 : k = 0 \/ k = 1 \/ k = 2 \/ k = 3 \/ k = 4 \/ k = 5 \/ k = 6 \/ k = 7 := by omega
 rcases h7 with rfl | rfl | rfl | rfl | rfl | rfl | rfl | rfl <;> decide
theorem meantF_miss {c : UInt8} (h : ∀ j, j < 8 -> fromE j ≠ c) : meantF c = none := by
 have h0 := h 0 (by omega); have h1 := h 1 (by omega); have h2 := h 2 (by omega); have h3 := h 3 (by omega); have h4 := h 4 (by omega); have h5 := h 5 (by omega); have h6 := h 6 (by omega); have h7 := h 7 (by omega)
 simp [fromE] at h0 h1 h2 h3 h4 h5 h6 h7
 unfold meantF
 rw [if_neg (fun e => h0 e.symm), if_neg (fun e => h1 e.symm), if_neg (fun e => h2 e.symm), if_neg (fun e => h3 e.symm), if_neg (fun e => h4 e.symm), if_neg (fun e => h5 e.symm), if_neg (fun e => h6 e.symm), if_neg (fun e => h7 e.symm)]
def badK (r : Int) (k : Nat) : Bool := decide (r <= 32) || decide (∃ j, j < k /\ ((noA j).toNat : Int) = r)
theorem badK_0 (r : Int) : badK r 0 = decide (r <= 32) := by unfold badK; simp
theorem badK_succ (r : Int) (k : Nat) : badK r (k + 1) = if badK r k = true then true else (((noA k).toNat : Int) == r) := by
 unfold badK
 by_cases h1 : r <= 32
 · simp [h1]
 by_cases h2 : ∃ j, j < k /\ ((noA j).toNat : Int) = r
 · have h3 : ∃ j, j < k + 1 /\ ((noA j).toNat : Int) = r := h2.elim fun j hj => ⟨j, by omega, hj.2⟩
   simp only [h1, h2, h3, decide_true, decide_false, Bool.false_or, if_true]
 · by_cases h4 : ((noA k).toNat : Int) = r
   · have h3 : ∃ j, j < k + 1 /\ ((noA j).toNat : Int) = r := ⟨k, by omega, h4⟩
     simp only [h1, h2, h3, h4, decide_true, decide_false, Bool.false_or, beq_self_eq_true]
     simp
   · have h3 : ¬ ∃ j, j < k + 1 /\ ((noA j).toNat : Int) = r := by
       rintro ⟨j, hj, he⟩
       by_cases hjk : j = k
       · exact h4 (hjk ▸ he)
       · exact h2 ⟨j, by omega, he⟩
     rw [beq_eq_false_iff_ne.2 h4]
     simp only [h1, h2, h3, decide_false, Bool.false_or]
     simp
theorem badK_9 (r : Int) : badK r 9 = decide (r <= 32 \/ r ∈ badA) := by
 unfold badK
 rw [Bool.decide_or]
 congr 1
 refine decide_eq_decide.2 ⟨?_, ?_⟩
 · rintro ⟨j, hj, rfl⟩
   have h9 : j = 0 \/ j = 1 \/ j = 2 \/ j = 3 \/ j = 4 \/ j = 5 \/ j = 6 \/ j = 7 \/ j = 8 := by omega
   rcases h9 with rfl | rfl | rfl | rfl | rfl | rfl | rfl | rfl | rfl <;> decide
 · intro h
   simp [badA] at h
   rcases h with rfl | rfl | rfl | rfl | rfl | rfl | rfl | rfl | rfl
   · exact ⟨0, by omega, by decide⟩
   · exact ⟨1, by omega, by decide⟩
   · exact ⟨2, by omega, by decide⟩
   · exact ⟨3, by omega, by decide⟩
   · exact ⟨4, by omega, by decide⟩
   · exact ⟨5, by omega, by decide⟩
   · exact ⟨6, by omega, by decide⟩
   · exact ⟨7, by omega, by decide⟩
   · exact ⟨8, by omega, by decide⟩
set_option maxHeartbeats 3200000 in
theorem refWritten_l (way r : Int) (w : World) (h0 : 0 <= r) (h1 : r <= 1114111) :
   Calls Tryz.prog 95 #[.int .i64 r, .int .i64 way] w fun e w' => e = .returned (.string (B (wrF way r))) /\ Below w.heap.size w w' := by
 obtain ⟨n, hn⟩ := Int.eq_ofNat_of_zero_le h0
 have BY := Lib.hid (fun u => refBytes_any r u h0 h1)
 have DG : Hid (∀ u, Calls Tryz.prog 138 #[.int .i64 r, .int .i64 4] u fun e w' => e = .returned (.string (B (digs4 r.toNat))) /\ Below u.heap.size u w') := Lib.hid (fun u => by
   have := refDigits_l n u (by omega)
   rw [hn, Int.toNat_natCast]
   exact this)
 clear hn
 have hbw : Below w.heap.size w w := Below.refl _ _
 by_cases hw : way = 1
 · subst hw
   go_enter Tryz.func95, Tryz.ntmps95
   go_wp2_with fail
   go_loopw [5] (fun i wr => ∃ k : Nat, k <= 7 /\ i = .int .i64 k /\ Hid (∀ j, j < k -> ((fromQ j).toNat : Int) ≠ r) /\ Below w.heap.size w wr) (fun i _ => 7 - (intOf i).toNat)
   case atStart => exact ⟨0, by omega, rfl, Lib.hid (fun j hj => by omega), hbw⟩
   case round =>
     obtain ⟨k, hk, rfl, HN, hb⟩ := hrel
     have HB := Lib.hid hb
     clear hb hbw
     by_cases hlt : k < 7
     · have q11 : decide ((k : Int) < 7) = true := decide_eq_true (by omega)
       have fx := fromQ_at k hlt
       have fl := (fromQ k).toNat_lt
       have cut := toQ_cut k hlt
       have j0 : 0 <= (k : Int) := by omega
       have j1 : (k : Int) < 7 := by omega
       by_cases he : ((fromQ k).toNat : Int) = r
       · have e1 : (((fromQ k).toNat : Int) == r) = true := beq_iff_eq.2 he
         have HE : Hid (wrF 1 r = [92, toQ k]) := Lib.hid (by unfold wrF; rw [if_pos rfl, <- he, letF_hit hlt])
         have HC := cat92 [toQ k]
         clear he HN BY DG h0 h1
         go_wp2_with fail
         go_ret
         exact ⟨by rw [HE.out]; rfl, HB.out⟩
       · have e1 : (((fromQ k).toNat : Int) == r) = false := beq_eq_false_iff_ne.2 he
         have HN2 : Hid (∀ j, j < k + 1 -> ((fromQ j).toNat : Int) ≠ r) := Lib.hid (fun j hj => by
           by_cases hjk : j = k
           · rw [hjk]; exact he
           · exact HN.out j (by omega))
         clear he HN BY DG h0 h1
         go_wp2_with fail
         go_roundw
         case rel => exact ⟨k + 1, by omega, by go_num, HN2, HB.out⟩
         case measure => simp [intOf]; omega
     · have q11 : decide ((k : Int) < 7) = false := decide_eq_false (by omega)
       have hl := letF_miss (fun j hj => HN.out j (by omega))
       clear HN
       by_cases h32 : r < 32
       · have e1 : decide (r < 32) = true := decide_eq_true h32
         have HE : Hid (wrF 1 r = 92 :: 117 :: digs4 r.toNat) := Lib.hid (by unfold wrF; rw [if_pos rfl, hl]; exact if_pos (.inl h32))
         have HU := Lib.hid (wr_u 1 r r.toNat HE.out)
         clear hl BY h0 h1 h32
         go_wp2_with (go_at_call 138; (with_reducible refine (DG.out _).mono ?_); rintro e w1 ⟨rfl, hb⟩; have HB1 := Lib.hid (HB.out.trans (hb.mono HB.out.size)); clear hb)
         go_ret
         exact ⟨by rw [<- HU.out]; rfl, HB1.out⟩
       · have e1 : decide (r < 32) = false := decide_eq_false h32
         by_cases h127 : r = 127
         · have e2 : (r == 127) = true := beq_iff_eq.2 h127
           have HE : Hid (wrF 1 r = 92 :: 117 :: digs4 r.toNat) := Lib.hid (by unfold wrF; rw [if_pos rfl, hl]; exact if_pos (.inr h127))
           have HU := Lib.hid (wr_u 1 r r.toNat HE.out)
           clear hl BY h0 h1 h32 h127
           go_wp2_with (go_at_call 138; (with_reducible refine (DG.out _).mono ?_); rintro e w1 ⟨rfl, hb⟩; have HB1 := Lib.hid (HB.out.trans (hb.mono HB.out.size)); clear hb)
           go_ret
           exact ⟨by rw [<- HU.out]; rfl, HB1.out⟩
         · have e2 : (r == 127) = false := beq_eq_false_iff_ne.2 h127
           have HE : Hid (wrF 1 r = byU r) := Lib.hid (by unfold wrF; rw [if_pos rfl, hl]; exact if_neg (fun h => h.elim h32 h127))
           clear hl DG h0 h1 h32 h127
           go_wp2_with (go_at_call 139; (with_reducible refine (BY.out _).mono ?_); rintro e w1 ⟨cp, rfl, ha, hb⟩; have hback := conv_at (P := Tryz.prog) w1 25 9 5 _ cp _ (byU r) (bytesU_length r) (bytesOf_pos r) Tryz.underlying25 Tryz.underlying5 Tryz.underlying9 (bytesU_cells r ▸ ha); have HB1 := Lib.hid (HB.out.trans (hb.mono HB.out.size)); clear ha hb)
           go_ret
           exact ⟨by rw [HE.out]; rfl, HB1.out⟩
 · have q9 : (way == 1) = false := beq_eq_false_iff_ne.2 hw
   have HK0 := Lib.hid (badK_0 r)
   go_enter Tryz.func95, Tryz.ntmps95
   obtain ⟨b0, hb0⟩ : ∃ b0, decide (r <= 32) = b0 := ⟨_, rfl⟩
   go_wp2_with fail
   go_loopw [6, 7] (fun b i wr => ∃ (k : Nat), k <= 9 /\ b = .bool (badK r k) /\ i = .int .i64 k /\ Below w.heap.size w wr) (fun _ i _ => 9 - (intOf i).toNat)
   case atStart => exact ⟨0, by omega, by rw [HK0.out, hb0], rfl, hbw⟩
   case round =>
     obtain ⟨k, hk, rfl, rfl, hb⟩ := hrel
     have HB := Lib.hid hb
     clear hb hbw hb0
     by_cases hlt : k < 9
     · have q11 : decide ((k : Int) < 9) = true := decide_eq_true (by omega)
       have fx := noA_at k hlt
       have fl := (noA k).toNat_lt
       have j0 : 0 <= (k : Int) := by omega
       have j1 : (k : Int) < 9 := by omega
       have hs := badK_succ r k
       obtain ⟨c, hc⟩ : ∃ c, (((noA k).toNat : Int) == r) = c := ⟨_, rfl⟩
       cases hbk : badK r k with
       | true =>
         rw [hbk, if_pos rfl] at hs
         have HS := Lib.hid hs
         clear hs hbk BY DG h0 h1
         go_wp2_with fail
         go_roundw
         case rel => exact ⟨k + 1, by omega, by rw [HS.out], by go_num, HB.out⟩
         case measure => simp [intOf]; omega
       | false =>
         rw [hbk, if_neg (by simp), hc] at hs
         have HS := Lib.hid hs
         clear hs hbk BY DG h0 h1
         go_wp2_with fail
         go_roundw
         case rel => exact ⟨k + 1, by omega, by rw [HS.out], by go_num, HB.out⟩
         case measure => simp [intOf]; omega
     · have HK : Hid (k = 9) := Lib.hid (by omega)
       have q11 : decide ((k : Int) < 9) = false := decide_eq_false (by omega)
       have h9 := badK_9 r
       rw [<- HK.out] at h9
       cases hbk : badK r k with
       | true =>
         rw [hbk] at h9
         have HE : Hid (wrF way r = 92 :: 117 :: digs4 r.toNat) := Lib.hid (by unfold wrF; rw [if_neg hw]; exact if_pos (of_decide_eq_true h9.symm))
         have HU := Lib.hid (wr_u way r r.toNat HE.out)
         clear h9 hbk BY h0 h1 hw
         go_wp2_with (go_at_call 138; (with_reducible refine (DG.out _).mono ?_); rintro e w1 ⟨rfl, hb⟩; have HB1 := Lib.hid (HB.out.trans (hb.mono HB.out.size)); clear hb)
         go_ret
         exact ⟨by rw [<- HU.out]; rfl, HB1.out⟩
       | false =>
         rw [hbk] at h9
         have HE : Hid (wrF way r = byU r) := Lib.hid (by unfold wrF; rw [if_neg hw]; exact if_neg (of_decide_eq_false h9.symm))
         clear h9 hbk DG h0 h1 hw
         go_wp2_with (go_at_call 139; (with_reducible refine (BY.out _).mono ?_); rintro e w1 ⟨cp, rfl, ha, hb⟩; have hback := conv_at (P := Tryz.prog) w1 25 9 5 _ cp _ (byU r) (bytesU_length r) (bytesOf_pos r) Tryz.underlying25 Tryz.underlying5 Tryz.underlying9 (bytesU_cells r ▸ ha); have HB1 := Lib.hid (HB.out.trans (hb.mono HB.out.size)); clear ha hb)
         go_ret
         exact ⟨by rw [HE.out]; rfl, HB1.out⟩
theorem escPair {way : Int} {r : List UInt8} {v : Int} {n : Nat} (h : escN way r = (v, n)) : Ending.returned (pairI (escN way r)) = .returned (.tuple #[.int .i64 v, .int .i64 (n : Int)]) := by rw [h]; rfl
set_option maxHeartbeats 3200000 in
theorem refEscape_l (way : Int) (l : List UInt8) (i : Nat) (w : World) (hl : l.length <= 4611686018427387904) (hi : i < l.length) :
   Calls Tryz.prog 223 #[.string (B l), .int .i64 (i : Int), .int .i64 way] w fun e w' => e = .returned (pairI (escN way (l.drop i))) /\ Below w.heap.size w w' := by
 have hbw : Below w.heap.size w w := Below.refl _ _
 by_cases h1 : l.length <= i + 1
 · have e1 : decide ((l.length : Int) <= (i : Int) + 1) = true := decide_eq_true (by omega)
   have HE : Hid (escN way (l.drop i) = (0, 0)) := Lib.hid (by
     rw [List.drop_eq_getElem_cons hi, List.drop_eq_nil_of_le h1]; rw [escN]; intro a b t h; simp at h)
   have HP := Lib.hid (escPair HE.out)
   go_enter Tryz.func223, Tryz.ntmps223
   go_wp2_with fail
   go_ret2
   exact ⟨HP.out.symm, Below.refl _ _⟩
 have hlt : i + 1 < l.length := by omega
 have e1 : decide ((l.length : Int) <= (i : Int) + 1) = false := decide_eq_false (by omega)
 have j0 : 0 <= (i : Int) + 1 := by omega
 have j1 : (i : Int) + 1 < (l.length : Int) := by omega
 have hd : l.drop i = l[i] :: l[i + 1] :: l.drop (i + 2) := by rw [List.drop_eq_getElem_cons hi, List.drop_eq_getElem_cons hlt]
 obtain ⟨c, hc⟩ : ∃ c, l[i + 1] = c := ⟨_, rfl⟩
 have HX : Hid (escN way (l.drop i) = if c = 117 then pairN 6 (numF (l.drop (i + 2)) 4) else if c = 85 then pairN 10 (numF (l.drop (i + 2)) 8) else if way = 1 then pairN 2 (meantF c) else (0, 0)) := Lib.hid (by rw [hd, escN, hc])
 have NB := Lib.hid (fun (k : Nat) (hk : k <= 8) (u : World) => refNumber_l l (i + 2) k u hk hl (by omega))
 clear hd h1
 by_cases c1 : c = 117
 · have q1 : ((c.toNat : Int) == 117) = true := by rw [c1]; rfl
   rw [if_pos c1] at HX
   have N4 : ∀ u, Calls Tryz.prog 244 #[.string (B l), .int .i64 ((i : Int) + 2), .int .i64 4] u fun e w' => e = .returned (.int .i64 (numI (numF (l.drop (i + 2)) 4))) /\ Below u.heap.size u w' := NB.out 4 (by omega)
   cases hq : numF (l.drop (i + 2)) 4 with
   | none =>
     have HP := Lib.hid (escPair (HX.out.trans (by rw [hq, pairN])))
     rw [hq] at N4
     simp only [numI] at N4
     have N5 := Lib.hid N4
     clear N4 NB HX c1 hq
     go_enter Tryz.func223, Tryz.ntmps223
     go_wp2_with (go_at_call 244; (with_reducible refine (N5.out _).mono ?_); rintro e w1 ⟨rfl, hb⟩; have HB1 := Lib.hid hb; clear hb)
     go_ret2
     exact ⟨HP.out.symm, HB1.out⟩
   | some r =>
     have hr := (numF_some hq).2
     have hr0 : 0 <= r := by unfold scal at hr; simp at hr; omega
     have hr1 : r <= 1114111 := by unfold scal at hr; simp at hr; omega
     have HP := Lib.hid (escPair (HX.out.trans (by rw [hq, pairN])))
     rw [hq] at N4
     simp only [numI] at N4
     have N5 := Lib.hid N4
     have q2 : decide (r < 0) = false := decide_eq_false (by omega)
     clear N4 NB HX c1 hq hr
     go_enter Tryz.func223, Tryz.ntmps223
     go_wp2_with (go_at_call 244; (with_reducible refine (N5.out _).mono ?_); rintro e w1 ⟨rfl, hb⟩; have HB1 := Lib.hid hb; clear hb)
     go_ret2
     exact ⟨HP.out.symm, HB1.out⟩
 have q1 : ((c.toNat : Int) == 117) = false := byte_ne (d := 117) c1
 rw [if_neg c1] at HX
 by_cases c2 : c = 85
 · have q2 : ((c.toNat : Int) == 85) = true := by rw [c2]; rfl
   rw [if_pos c2] at HX
   have N4 : ∀ u, Calls Tryz.prog 244 #[.string (B l), .int .i64 ((i : Int) + 2), .int .i64 8] u fun e w' => e = .returned (.int .i64 (numI (numF (l.drop (i + 2)) 8))) /\ Below u.heap.size u w' := NB.out 8 (by omega)
   cases hq : numF (l.drop (i + 2)) 8 with
   | none =>
     have HP := Lib.hid (escPair (HX.out.trans (by rw [hq, pairN])))
     rw [hq] at N4
     simp only [numI] at N4
     have N5 := Lib.hid N4
     clear N4 NB HX c1 c2 hq
     go_enter Tryz.func223, Tryz.ntmps223
     go_wp2_with (go_at_call 244; (with_reducible refine (N5.out _).mono ?_); rintro e w1 ⟨rfl, hb⟩; have HB1 := Lib.hid hb; clear hb)
     go_ret2
     exact ⟨HP.out.symm, HB1.out⟩
   | some r =>
     have hr := (numF_some hq).2
     have hr0 : 0 <= r := by unfold scal at hr; simp at hr; omega
     have hr1 : r <= 1114111 := by unfold scal at hr; simp at hr; omega
     have HP := Lib.hid (escPair (HX.out.trans (by rw [hq, pairN])))
     rw [hq] at N4
     simp only [numI] at N4
     have N5 := Lib.hid N4
     have q3 : decide (r < 0) = false := decide_eq_false (by omega)
     clear N4 NB HX c1 c2 hq hr
     go_enter Tryz.func223, Tryz.ntmps223
     go_wp2_with (go_at_call 244; (with_reducible refine (N5.out _).mono ?_); rintro e w1 ⟨rfl, hb⟩; have HB1 := Lib.hid hb; clear hb)
     go_ret2
     exact ⟨HP.out.symm, HB1.out⟩
 have q2 : ((c.toNat : Int) == 85) = false := byte_ne (d := 85) c2
 rw [if_neg c2] at HX
 clear NB c1 c2
 obtain ⟨yes, hyes⟩ : ∃ yes : Bool, (way == 1) = yes := ⟨_, rfl⟩
 have HY := Lib.hid hyes
 go_enter Tryz.func223, Tryz.ntmps223
 go_wp2_with fail
 go_loopw [11] (fun z wr => ∃ k : Nat, k <= 8 /\ z = .int .i64 k /\ Hid (∀ j, j < k -> fromE j ≠ c) /\ Below w.heap.size w wr) (fun z _ => 8 - (intOf z).toNat)
 case atStart => exact ⟨0, by omega, rfl, Lib.hid (fun j hj => by omega), hbw⟩
 case round =>
   obtain ⟨k, hk, rfl, HN, hb⟩ := hrel
   have HB := Lib.hid hb
   clear hb hbw
   by_cases hlt : k < 8
   · have q11 : decide ((k : Int) < 8) = true := decide_eq_true (by omega)
     have fx := fromE_at k hlt
     have tx := toE_at k hlt
     have fl := (fromE k).toNat_lt
     have tl := (toE k).toNat_lt
     have k0 : 0 <= (k : Int) := by omega
     have k1 : (k : Int) < 8 := by omega
     cases yes with
     | false =>
       have HE : Hid (escN way (l.drop i) = (0, 0)) := Lib.hid (by rw [HX.out, if_neg (beq_eq_false_iff_ne.1 HY.out)])
       have HP := Lib.hid (escPair HE.out)
       clear HX HN
       go_wp2_with fail
       go_ret2
       exact ⟨HP.out.symm, HB.out⟩
     | true =>
       by_cases he : fromE k = c
       · have e2 : (((fromE k).toNat : Int) == (c.toNat : Int)) = true := by rw [he]; simp
         have HP := Lib.hid (escPair (v := ((toE k).toNat : Int)) (n := 2) (HX.out.trans (by rw [if_pos (beq_iff_eq.1 HY.out), <- he, meantF_hit hlt]; rfl)))
         clear HX HN he
         go_wp2_with fail
         go_ret2
         exact ⟨HP.out.symm, HB.out⟩
       · have e2 : (((fromE k).toNat : Int) == (c.toNat : Int)) = false := beq_eq_false_iff_ne.2 (fun h => he (UInt8.toNat_inj.1 (by omega)))
         have HN2 : Hid (∀ j, j < k + 1 -> fromE j ≠ c) := Lib.hid (fun j hj => by
           by_cases hjk : j = k
           · rw [hjk]; exact he
           · exact HN.out j (by omega))
         clear HX HN he
         go_wp2_with fail
         go_roundw
         case rel => exact ⟨k + 1, by omega, by go_num, HN2, HB.out⟩
         case measure => simp [intOf]; omega
   · have q11 : decide ((k : Int) < 8) = false := decide_eq_false (by omega)
     have HE : Hid (escN way (l.drop i) = (0, 0)) := Lib.hid (by
       rw [HX.out, meantF_miss (fun j hj => HN.out j (by omega))]
       split <;> rfl)
     have HP := Lib.hid (escPair HE.out)
     clear HX HN
     go_wp2_with fail
     go_ret2
     exact ⟨HP.out.symm, HB.out⟩
end Go.Proofs.YtdegonmkikfghaaGreatDoor
namespace Go.Proofs.YtdegonmkikfghaaGreatDoor
open Go.RowKit
set_option maxRecDepth 100000
theorem fault_new (w : World) : RowAt (w.alloc (.cells #[.int .i64 0, .int .i64 0] 125)) w.heap.size [.int .i64 0, .int .i64 0] := rowAt_of_heap (L := [.int .i64 0, .int .i64 0]) (t := 125) (heap_alloc_new _ _)
theorem row_two {w : World} {g : Nat} {a b : Value} (h : RowAt w g [a, b]) : w.cell? ⟨g, 0, none⟩ = some a /\ w.cell? ⟨g, 1, none⟩ = some b /\ w.frozen? ⟨g, 0, none⟩ = false /\ w.frozen? ⟨g, 1, none⟩ = false /\ g < w.heap.size :=
 ⟨h.cell (j := 0) (by simp), h.cell (j := 1) (by simp), h.free (j := 0) (by simp), h.free (j := 1) (by simp), World.block_lt_of_cell? _ _ (h.cell (j := 0) (by simp))⟩
set_option maxHeartbeats 3200000 in
theorem refEsc_ok (way : Int) (l : List UInt8) (w : World) (hl : l.length <= 16777216) (hu : utfF l 0 = -1) :
   Calls Tryz.prog 68 #[.string (B l), .int .i64 way] w fun e w' => e = .returned (.tuple #[.string (B (escF way l 0)), .agg #[.int .i64 0, .int .i64 0]]) /\ Below w.heap.size w w' := by
 have CH : Hid (∀ u, Calls Tryz.prog 64 #[.string (B l)] u fun e w' => e = .returned (.int .i64 (-1)) /\ Below u.heap.size u w') := Lib.hid (fun u => hu ▸ refUtfCheck_l l u (by omega))
 have WR := Lib.hid (fun (v : Int) (h0 : 0 <= v) (h1 : v <= 1114111) (u : World) => refWritten_l way v u h0 h1)
 have NX := Lib.hid (fun (j : Nat) (hj : j < l.length) (v : Int) (n : Nat) (h : nextAt l (j : Int) = (v, n)) (u : World) => (by have := refNext_l l j u (by omega) (by omega); rw [h] at this; exact this : Calls Tryz.prog 91 #[.string (B l), .int .i64 (j : Int)] u fun e w' => e = .returned (.tuple #[.int .i64 v, .int .i64 (n : Int)]) /\ Below u.heap.size u w'))
 have HU := Lib.hid hu
 have F0 := Lib.hid (fault_new w)
 have B0 : Hid (Below w.heap.size w (w.alloc (.cells #[.int .i64 0, .int .i64 0] 125))) := Lib.hid ((Below.refl _ _).alloc (Nat.le_refl _) _)
 clear hu
 go_enter Tryz.func68, Tryz.ntmps68
 go_wp2_with (go_at_call 64; (with_reducible refine (CH.out _).mono ?_); rintro e w1 ⟨rfl, hb1⟩; have HB1 := Lib.hid (B0.out.trans (hb1.mono B0.out.size)); have HF1 := Lib.hid (rowAt_below F0.out hb1); have hs1 := hb1.size; simp at hs1; clear hb1)
 go_loopw [6, 7] (fun i v wr => ∃ (j : Nat) (acc : List UInt8), i = .int .i64 j /\ j <= l.length /\ acc.length <= 6 * j /\ Hid (escF way l 0 = acc ++ escF way l j) /\ Hid (utfF l j = -1) /\ Hid (BOwn (w.heap.size + 1) v acc wr) /\ Hid (Below w.heap.size w wr) /\ Hid (RowAt wr w.heap.size [.int .i64 0, .int .i64 0]) /\ w.heap.size + 1 <= wr.heap.size) (fun i _ _ => l.length - (intOf i).toNat)
 case atStart => exact ⟨0, [], rfl, Nat.zero_le _, Nat.zero_le _, Lib.hid rfl, HU, Lib.hid (BOwn.nil _ _), HB1, HF1, hs1⟩
 case round =>
   obtain ⟨j, acc, rfl, hj, hacc, HS, HV, HO, HB, HF, hsz⟩ := hrel
   clear HB1 HF1 F0 B0
   by_cases hlt : j < l.length
   · have q19 : decide ((j : Int) < (l.length : Int)) = true := decide_eq_true (by omega)
     obtain ⟨v, n, hq⟩ : ∃ v n, nextAt l (j : Int) = (v, n) := ⟨_, _, rfl⟩
     have hn : n ≠ 0 := by
       rintro rfl
       have := HV.out
       rw [utfF_bad hlt hq] at this
       omega
     have hbd := nextAt_bound hq hn
     have hjn : j + n <= l.length := by omega
     have hn1 : 1 <= n := by omega
     have HE : Hid (escF way l 0 = (acc ++ wrF way v) ++ escF way l (j + n)) := Lib.hid (by rw [HS.out, escF_go hlt hq hn, List.append_assoc])
     have HW : Hid (utfF l (j + n) = -1) := Lib.hid (by have := HV.out; rw [utfF_go hlt hq hn] at this; exact this)
     have N2 := Lib.hid (NX.out j hlt v n hq)
     have W2 := Lib.hid (fun u => WR.out v hbd.2.2.1 hbd.2.2.2 u)
     have hwl := wrF_len way v
     have hlx : acc.length + (wrF way v).length <= 140737488355328 := by omega
     have hal : (acc ++ wrF way v).length <= 6 * (j + n) := by simp; omega
     clear hq hn HS HV NX WR hbd HU
     go_wp2_with (first
       | (go_at_call 91; (with_reducible refine (N2.out _).mono ?_); rintro e w2 ⟨rfl, hb2⟩; have HO2 := Lib.hid (HO.out.below hb2); have HB2 := Lib.hid (HB.out.trans (hb2.mono HB.out.size)); have HF2 := Lib.hid (rowAt_below HF.out hb2); have hs2 := hb2.size; clear hb2)
       | (go_at_call 95; (with_reducible refine (W2.out _).mono ?_); rintro e w3 ⟨rfl, hb3⟩; have HO3 := Lib.hid (HO2.out.below hb3); have HB3 := Lib.hid (HB2.out.trans (hb3.mono HB2.out.size)); have HF3 := Lib.hid (rowAt_below HF2.out hb3); have hs3 := hb3.size; clear hb3)
       | (at_builtin; refine wpList_app_str rfl (.tmp 26) (.tmp 29) rfl (w.heap.size + 1) _ acc (wrF way v) rfl HO3.out rfl hlx (by omega) ?_; intro v4 w4 hO4 hg4; have HO4 := Lib.hid hO4; have HB4 := Lib.hid (below_own HB3.out HO3.out hg4 (by omega)); have HF4 := Lib.hid (rowAt_own HF3.out HO3.out hg4 (by omega)); have hs4 := hg4.size; clear hO4 hg4))
     go_roundw
     case rel => exact ⟨j + n, acc ++ wrF way v, by go_num, hjn, hal, HE, HW, HO4, HB4, HF4, by omega⟩
     case measure => simp [intOf]; omega
   · have q19 : decide ((j : Int) < (l.length : Int)) = false := decide_eq_false (by omega)
     have HE : Hid (escF way l 0 = acc) := Lib.hid (by rw [HS.out, escF_end (by omega), List.append_nil])
     have hback := HO.out.back
     obtain ⟨c0, c1, f0, f1, hg⟩ := row_two HF.out
     clear HS HV NX WR HU CH HF
     go_wp2_with fail
     refine bodyPost_ret (v := .tuple #[.string (B acc), .agg #[.int .i64 0, .int .i64 0]]) (by simp [results, Tryz.results68, go_sem, c0, c1, f0, f1, hg]) rfl ?_
     rw [HE.out]
     exact ⟨rfl, (HB.out.setCell (p := ⟨w.heap.size, 0, none⟩) (Nat.le_refl _) _).setCell (p := ⟨w.heap.size, 1, none⟩) (Nat.le_refl _) _⟩
def unescV : List UInt8 ⊕ (Nat × Int) -> Value
 | .inl t => .tuple #[.string (B t), .agg #[.int .i64 0, .int .i64 0]]
 | .inr (p, e) => .tuple #[.string ⟨#[]⟩, .agg #[.int .i64 (p : Int), .int .i64 e]]
theorem byU_cells (r : Int) : (bytesOf r).map (Value.int .u8) = (byU r).map U8 := bytesU_cells r
theorem nextAt_of_ascii {l : List UInt8} {j : Nat} (h : (l.getD j 0).toNat < 128) (hj : j < l.length) : nextAt l (j : Int) = (((l.getD j 0).toNat : Int), 1) := by
 rw [nextAt_nat, List.drop_eq_getElem_cons hj]
 have e : l.getD j 0 = l[j] := by simp [List.getD, hj]
 rw [e] at h ⊢
 exact nextP_1 h
set_option maxHeartbeats 3200000 in
theorem refUnesc_l (way : Int) (l : List UInt8) (w : World) (hl : l.length <= 16777216) :
   Calls Tryz.prog 171 #[.string (B l), .int .i64 way] w fun e w' => e = .returned (unescV (unescF way l 0)) /\ Below w.heap.size w w' := by
 have NX := Lib.hid (fun (j : Nat) (hj : j < l.length) (v : Int) (n : Nat) (h : nextAt l (j : Int) = (v, n)) (u : World) => (by have := refNext_l l j u (by omega) (by omega); rw [h] at this; exact this : Calls Tryz.prog 91 #[.string (B l), .int .i64 (j : Int)] u fun e w' => e = .returned (.tuple #[.int .i64 v, .int .i64 (n : Int)]) /\ Below u.heap.size u w'))
 have ES := Lib.hid (fun (j : Nat) (hj : j < l.length) (v : Int) (n : Nat) (h : escN way (l.drop j) = (v, n)) (u : World) => (by have := refEscape_l way l j u (by omega) hj; rw [h] at this; exact this : Calls Tryz.prog 223 #[.string (B l), .int .i64 (j : Int), .int .i64 way] u fun e w' => e = .returned (.tuple #[.int .i64 v, .int .i64 (n : Int)]) /\ Below u.heap.size u w'))
 have BY := Lib.hid (fun (v : Int) (h0 : 0 <= v) (h1 : v <= 1114111) (u : World) => refBytes_any v u h0 h1)
 have F0 := Lib.hid (fault_new w)
 have B0 : Hid (Below w.heap.size w (w.alloc (.cells #[.int .i64 0, .int .i64 0] 125))) := Lib.hid ((Below.refl _ _).alloc (Nat.le_refl _) _)
 go_enter Tryz.func171, Tryz.ntmps171
 go_wp2_with fail
 go_loopw [6, 7] (fun v i wr => ∃ (j : Nat) (acc : List UInt8), i = .int .i64 j /\ j <= l.length /\ acc.length <= 4 * j /\ Hid (unescF way l 0 = putF acc (unescF way l j)) /\ Hid (BOwn (w.heap.size + 1) v acc wr) /\ Hid (Below w.heap.size w wr) /\ Hid (RowAt wr w.heap.size [.int .i64 0, .int .i64 0]) /\ w.heap.size + 1 <= wr.heap.size) (fun _ i _ => l.length - (intOf i).toNat)
 case atStart => exact ⟨0, [], rfl, Nat.zero_le _, Nat.zero_le _, Lib.hid (by cases unescF way l 0 <;> rfl), Lib.hid (BOwn.nil _ _), B0, F0, by simp⟩
 case round =>
   obtain ⟨j, acc, rfl, hj, hacc, HS, HO, HB, HF, hsz⟩ := hrel
   clear F0 B0
   by_cases hlt : j < l.length
   · have q19 : decide ((j : Int) < (l.length : Int)) = true := decide_eq_true (by omega)
     obtain ⟨v, n, hq⟩ : ∃ v n, nextAt l (j : Int) = (v, n) := ⟨_, _, rfl⟩
     have N2 := Lib.hid (NX.out j hlt v n hq)
     by_cases hn : n = 0
     · have e0 : ((n : Int) == 0) = true := by rw [hn]; rfl
       have h92 : l.getD j 0 ≠ 92 := by
         intro h
         have := nextAt_of_ascii (l := l) (j := j) (by rw [h]; decide) hlt
         rw [hq, hn] at this
         simp at this
       have HE : Hid (unescF way l 0 = .inr (j, 40)) := Lib.hid (by rw [HS.out, unescF_bad (v := v) (e := 40) hlt (by unfold atF; rw [if_neg h92, hq, hn])]; rfl)
       clear hq hn h92 HS NX ES BY
       go_wp2_with (go_at_call 91; (with_reducible refine (N2.out _).mono ?_); rintro e w2 ⟨rfl, hb2⟩; have HB2 := Lib.hid (HB.out.trans (hb2.mono HB.out.size)); obtain ⟨c0, c1, f0, f1, hg⟩ := row_two (rowAt_below HF.out hb2); clear hb2)
       refine bodyPost_ret (v := .tuple #[.string ⟨#[]⟩, .agg #[.int .i64 (j : Int), .int .i64 40]]) (by simp [results, Tryz.results171, go_sem, c0, c1, f0, f1, hg]) rfl ?_
       rw [HE.out]
       exact ⟨rfl, (HB2.out.setCell (p := ⟨w.heap.size, 0, none⟩) (Nat.le_refl _) _).setCell (p := ⟨w.heap.size, 1, none⟩) (Nat.le_refl _) _⟩
     have e0 : ((n : Int) == 0) = false := beq_eq_false_iff_ne.2 (by omega)
     have hbd := nextAt_bound hq hn
     by_cases h92 : l.getD j 0 = 92
     · have hv : v = 92 := by
         have := nextAt_of_ascii (l := l) (j := j) (by rw [h92]; decide) hlt
         rw [hq, h92] at this
         exact (Prod.mk.inj this).1
       have e1 : (v == 92) = true := beq_iff_eq.2 hv
       obtain ⟨r, m, hr⟩ : ∃ r m, escN way (l.drop j) = (r, m) := ⟨_, _, rfl⟩
       have E2 := Lib.hid (ES.out j hlt r m hr)
       by_cases hm : m = 0
       · have e2 : ((m : Int) == 0) = true := by rw [hm]; rfl
         have HE : Hid (unescF way l 0 = .inr (j, 41)) := Lib.hid (by rw [HS.out, unescF_bad (v := r) (e := 41) hlt (by unfold atF; rw [if_pos h92, hr, hm])]; rfl)
         clear hq hn h92 HS NX ES BY hr hm hv hbd
         go_wp2_with (first
           | (go_at_call 91; (with_reducible refine (N2.out _).mono ?_); rintro e w2 ⟨rfl, hb2⟩; have HB2 := Lib.hid (HB.out.trans (hb2.mono HB.out.size)); have HF2 := Lib.hid (rowAt_below HF.out hb2); clear hb2)
           | (go_at_call 223; (with_reducible refine (E2.out _).mono ?_); rintro e w3 ⟨rfl, hb3⟩; have HB3 := Lib.hid (HB2.out.trans (hb3.mono HB2.out.size)); obtain ⟨c0, c1, f0, f1, hg⟩ := row_two (rowAt_below HF2.out hb3); clear hb3))
         refine bodyPost_ret (v := .tuple #[.string ⟨#[]⟩, .agg #[.int .i64 (j : Int), .int .i64 41]]) (by simp [results, Tryz.results171, go_sem, c0, c1, f0, f1, hg]) rfl ?_
         rw [HE.out]
         exact ⟨rfl, (HB3.out.setCell (p := ⟨w.heap.size, 0, none⟩) (Nat.le_refl _) _).setCell (p := ⟨w.heap.size, 1, none⟩) (Nat.le_refl _) _⟩
       · have e2 : ((m : Int) == 0) = false := beq_eq_false_iff_ne.2 (by omega)
         obtain ⟨hml, hsc⟩ := escN_bound hr hm
         have hjm : j + m <= l.length := by simp at hml; omega
         have hm1 : 1 <= m := by omega
         obtain ⟨r0, r1, _⟩ := scal_cases hsc
         have HE : Hid (unescF way l 0 = putF (acc ++ byU r) (unescF way l (j + m))) := Lib.hid (by rw [HS.out, unescF_go hlt (show atF way l j = ((r, m), 41) by unfold atF; rw [if_pos h92, hr]) hm, putF_put])
         have BR := Lib.hid (fun u => BY.out r r0 (by omega) u)
         have hbl := byU_len r
         have hlx : acc.length + (byU r).length <= 140737488355328 := by omega
         have hal : (acc ++ byU r).length <= 4 * (j + m) := by simp; omega
         clear hq hn h92 HS NX ES BY hr hm hv hbd hml hsc
         go_wp2_with (first
           | (go_at_call 91; (with_reducible refine (N2.out _).mono ?_); rintro e w2 ⟨rfl, hb2⟩; have HO2 := Lib.hid (HO.out.below hb2); have HB2 := Lib.hid (HB.out.trans (hb2.mono HB.out.size)); have HF2 := Lib.hid (rowAt_below HF.out hb2); have hs2 := hb2.size; clear hb2)
           | (go_at_call 223; (with_reducible refine (E2.out _).mono ?_); rintro e w3 ⟨rfl, hb3⟩; have HO3 := Lib.hid (HO2.out.below hb3); have HB3 := Lib.hid (HB2.out.trans (hb3.mono HB2.out.size)); have HF3 := Lib.hid (rowAt_below HF2.out hb3); have hs3 := hb3.size; clear hb3)
           | (go_at_call 139; (with_reducible refine (BR.out _).mono ?_); rintro e w4 ⟨c4, rfl, ha4, hb4⟩; have HA4 := Lib.hid (byU_cells r ▸ ha4); have HO4 := Lib.hid (HO3.out.below hb4); have HB4 := Lib.hid (HB3.out.trans (hb4.mono HB3.out.size)); have HF4 := Lib.hid (rowAt_below HF3.out hb4); have hs4 := hb4.size; clear hb4 ha4)
           | (at_builtin; refine wpList_app_bytes rfl (.tmp 37) (.tmp 39) rfl (w.heap.size + 1) _ acc (byU r) rfl HO4.out _ _ _ rfl (bytesU_length r).symm HA4.out hlx (by omega) ?_; intro v5 w5 hO5 hg5; have HO5 := Lib.hid hO5; have HB5 := Lib.hid (below_own HB4.out HO4.out hg5 (by omega)); have HF5 := Lib.hid (rowAt_own HF4.out HO4.out hg5 (by omega)); have hs5 := hg5.size; clear hO5 hg5))
         go_roundw
         case rel => exact ⟨j + m, acc ++ byU r, by go_num, hjm, hal, HE, HO5, HB5, HF5, by omega⟩
         case measure => simp [intOf]; omega
     · have hv : v ≠ 92 := by
         intro h
         have h1 := nextAt_ascii hq hn (by omega)
         have h2 := (nextAt_bytes hq hn).1
         rw [h, h1] at h2
         have h3 : (l.drop j).take 1 = [l.getD j 0] := by
           rw [List.drop_eq_getElem_cons hlt, List.take_succ_cons, List.take_zero]; simp [List.getD, hlt]
         rw [h3] at h2
         have h4 : byU 92 = [92] := by decide
         rw [h4] at h2
         exact h92 (List.cons.inj h2).1.symm
       have e1 : (v == 92) = false := beq_eq_false_iff_ne.2 hv
       have hjn : j + n <= l.length := by omega
       have hn1 : 1 <= n := by omega
       have HE : Hid (unescF way l 0 = putF (acc ++ byU v) (unescF way l (j + n))) := Lib.hid (by rw [HS.out, unescF_go hlt (show atF way l j = ((v, n), 40) by unfold atF; rw [if_neg h92, hq]) hn, putF_put])
       have BR := Lib.hid (fun u => BY.out v hbd.2.2.1 hbd.2.2.2 u)
       have hbl := byU_len v
       have hlx : acc.length + (byU v).length <= 140737488355328 := by omega
       have hal : (acc ++ byU v).length <= 4 * (j + n) := by simp; omega
       clear hq hn h92 HS NX ES BY hv hbd
       go_wp2_with (first
         | (go_at_call 91; (with_reducible refine (N2.out _).mono ?_); rintro e w3 ⟨rfl, hb3⟩; have HO3 := Lib.hid (HO.out.below hb3); have HB3 := Lib.hid (HB.out.trans (hb3.mono HB.out.size)); have HF3 := Lib.hid (rowAt_below HF.out hb3); have hs3 := hb3.size; clear hb3)
         | (go_at_call 139; (with_reducible refine (BR.out _).mono ?_); rintro e w4 ⟨c4, rfl, ha4, hb4⟩; have HA4 := Lib.hid (byU_cells v ▸ ha4); have HO4 := Lib.hid (HO3.out.below hb4); have HB4 := Lib.hid (HB3.out.trans (hb4.mono HB3.out.size)); have HF4 := Lib.hid (rowAt_below HF3.out hb4); have hs4 := hb4.size; clear hb4 ha4)
         | (at_builtin; refine wpList_app_bytes rfl (.tmp 37) (.tmp 39) rfl (w.heap.size + 1) _ acc (byU v) rfl HO4.out _ _ _ rfl (bytesU_length v).symm HA4.out hlx (by omega) ?_; intro v5 w5 hO5 hg5; have HO5 := Lib.hid hO5; have HB5 := Lib.hid (below_own HB4.out HO4.out hg5 (by omega)); have HF5 := Lib.hid (rowAt_own HF4.out HO4.out hg5 (by omega)); have hs5 := hg5.size; clear hO5 hg5))
       go_roundw
       case rel => exact ⟨j + n, acc ++ byU v, by go_num, hjn, hal, HE, HO5, HB5, HF5, by omega⟩
       case measure => simp [intOf]; omega
   · have q19 : decide ((j : Int) < (l.length : Int)) = false := decide_eq_false (by omega)
     have HE : Hid (unescF way l 0 = .inl acc) := Lib.hid (by rw [HS.out, unescF_end (by omega)]; simp [putF])
     have hback := HO.out.back
     obtain ⟨c0, c1, f0, f1, hg⟩ := row_two HF.out
     clear HS NX ES BY HF
     go_wp2_with fail
     refine bodyPost_ret (v := .tuple #[.string (B acc), .agg #[.int .i64 0, .int .i64 0]]) (by simp [results, Tryz.results171, go_sem, c0, c1, f0, f1, hg]) rfl ?_
     rw [HE.out]
     exact ⟨rfl, (HB.out.setCell (p := ⟨w.heap.size, 0, none⟩) (Nat.le_refl _) _).setCell (p := ⟨w.heap.size, 1, none⟩) (Nat.le_refl _) _⟩
end Go.Proofs.YtdegonmkikfghaaGreatDoor
