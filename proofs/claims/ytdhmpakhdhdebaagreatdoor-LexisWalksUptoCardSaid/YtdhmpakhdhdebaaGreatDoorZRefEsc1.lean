/-
  tesseraref04: digits, hex, number: contracts. By an AI agent.
-/
import Derived.Test.YtdhmpakhdhdebaaGreatDoorZEscW
namespace Go.Proofs.YtdhmpakhdhdebaaGreatDoor
open Go.Lib (hid)
open Go.RowKit
set_option maxRecDepth 100000
theorem refHex_l (c : UInt8) (w : World) : Calls Tryz.prog 247 #[.int .u8 (c.toNat : Int)] w fun e w' => e = .returned (.int .i64 (hexI c)) /\ w' = w := by
 have hc := c.toNat_lt
 by_cases a : 48 <= c.toNat /\ c.toNat <= 57
 ·have HF : Hid (hexI c = (c.toNat : Int) - 48) := hid (by unfold hexI hexV; rw [if_pos a]; simp only; omega)
  obtain ⟨a1, a2⟩ := a
  go_enter Tryz.func247, Tryz.ntmps247
  go_wp2
  go_ret
  exact ⟨ret_i64 (by have := HF.out; omega), rfl⟩
 by_cases b : 97 <= c.toNat /\ c.toNat <= 102
 ·have HF : Hid (hexI c = (c.toNat : Int) - 87) := hid (by unfold hexI hexV; rw [if_neg a, if_pos b]; simp only; omega)
  clear a
  obtain ⟨b1, b2⟩ := b
  go_enter Tryz.func247, Tryz.ntmps247
  go_wp2
  go_ret
  exact ⟨ret_i64 (by have := HF.out; omega), rfl⟩
 by_cases d : 65 <= c.toNat /\ c.toNat <= 70
 ·have HF : Hid (hexI c = (c.toNat : Int) - 55) := hid (by unfold hexI hexV; rw [if_neg a, if_neg b, if_pos d]; simp only; omega)
  clear a b
  obtain ⟨d1, d2⟩ := d
  go_enter Tryz.func247, Tryz.ntmps247
  go_wp2
  go_ret
  exact ⟨ret_i64 (by have := HF.out; omega), rfl⟩
 ·have HF : Hid (hexI c = -1) := hid (by unfold hexI hexV; rw [if_neg a, if_neg b, if_neg d])
  go_enter Tryz.func247, Tryz.ntmps247
  go_wp2
  all_goals first | omega | (go_ret; exact ⟨ret_i64 HF.out.symm, rfl⟩)
def numI : Option Int -> Int
 | none => -1
 | some r => r
theorem numI_none {t : List UInt8} {k : Nat} (h : numF t k = none) : Ending.returned (.int .i64 (numI (numF t k))) = .returned (.int .i64 (-1)) := by rw [h]; rfl
theorem numI_some {t : List UInt8} {k : Nat} {x : Int} (h : numF t k = some x) : Ending.returned (.int .i64 (numI (numF t k))) = .returned (.int .i64 x) := by rw [h]; rfl
set_option maxHeartbeats 1600000 in
theorem refNumber_l (l : List UInt8) (i k : Nat) (w : World) (hk : k <= 8) (hl : l.length <= 4611686018427387904) (hi : i <= l.length) :
  Calls Tryz.prog 233 #[.string (B l), .int .i64 (i : Int), .int .i64 (k : Int)] w fun e w' => e = .returned (.int .i64 (numI (numF (l.drop i) k))) /\ Below w.heap.size w w' := by
 have HX := hid refHex_l; have SC := hid refScalar_any
 have hb : Below w.heap.size w w := Below.refl _ _
 go_enter Tryz.func233, Tryz.ntmps233
 go_wp2_with fail
 go_loopw [7, 8] (fun a z wr => ∃ acc j : Nat, j <= k /\ acc < 16 ^ j /\ i + j <= l.length /\ a = .int .i64 acc /\ z = .int .i64 j /\ Hid (numV 0 (l.drop i) k = numV acc (l.drop (i + j)) (k - j)) /\ Below w.heap.size w wr) (fun _ z _ => k - (intOf z).toNat)
 case atStart => exact ⟨0, 0, Nat.zero_le _, by decide, hi, rfl, rfl, hid rfl, hb⟩
 case round =>
  obtain ⟨acc, j, hj, ha, hil, rfl, rfl, HN, hb⟩ := hrel
  have hp : 16 ^ j <= 16 ^ 8 := Nat.pow_le_pow_right (by decide) (by omega)
  have ha8 : acc < 4294967296 := Nat.lt_of_lt_of_le ha hp
  have HA := hid ha
  have HB := hid hb
  clear ha hp hb
  by_cases hlt : j < k
  ·have q12 : decide ((j : Int) < (k : Int)) = true := decide_eq_true (by omega)
   obtain ⟨m, hm⟩ : ∃ m, k - j = m + 1 := ⟨k - j - 1, by omega⟩
   by_cases hend : l.length <= i + j
   ·have e1 : decide ((l.length : Int) <= (i : Int) + (j : Int)) = true := decide_eq_true (by omega)
    have HE := hid (numI_none (numF_none (HN.out.trans (by rw [List.drop_eq_nil_of_le hend, hm, numV]))))
    clear HN HX hm
    go_wp2_with fail
    go_ret
    exact ⟨HE.out.symm, HB.out⟩
   ·have hjl : i + j < l.length := by omega
    have e1 : decide ((l.length : Int) <= (i : Int) + (j : Int)) = false := decide_eq_false (by omega)
    have st := numV_step (acc := acc) (n := m) hjl
    rw [<- hm] at st
    cases hd : hexV l[i + j] with
    | none =>
     have HE := hid (numI_none (numF_none (HN.out.trans (by rw [st, hd]))))
     have N2 := hid (fun u => hexI_none hd ▸ HX.out l[i + j] u)
     clear st hd HN HX hm
     go_wp2_with (go_at_call 247; (with_reducible refine (N2.out _).mono ?_); rintro e w1 ⟨rfl, rfl⟩)
     go_ret
     exact ⟨HE.out.symm, HB.out⟩
    | some d =>
     have hd16 := hexV_lt hd
     have HE : Hid (numV 0 (l.drop i) k = numV (acc * 16 + d) (l.drop (i + (j + 1))) (k - (j + 1))) := hid (HN.out.trans (by rw [st, hd, show k - (j + 1) = m by omega, Nat.add_assoc]))
     have N2 := hid (fun u => hexI_some hd ▸ HX.out l[i + j] u)
     have d0 : ((d : Int) < 0) = False := by simp
     clear st hd HN HX hm
     go_wp2_with (go_at_call 247; (with_reducible refine (N2.out _).mono ?_); rintro e w1 ⟨rfl, rfl⟩)
     go_roundw
     case rel =>
      refine ⟨acc * 16 + d, j + 1, by omega, ?_, by omega, by go_num, by go_num, HE, HB.out⟩
      rw [Nat.pow_succ]
      have := HA.out
      omega
     case measure => simp [intOf]; omega
  ·obtain rfl : j = k := by omega
   have q12 : decide ((j : Int) < (j : Int)) = false := decide_eq_false (by omega)
   have HE := hid (numF_of (HN.out.trans (by rw [Nat.sub_self, numV])))
   clear HN
   cases hsc : scal (acc : Int) with
   | true =>
    have H3 := hid (numI_some (HE.out.trans (if_pos hsc)))
    have N3 := hid (fun u => hsc ▸ SC.out (acc : Int) u)
    clear HE hsc SC
    go_wp2_with (go_at_call 137; (with_reducible refine (N3.out _).mono ?_); rintro e w1 ⟨rfl, rfl⟩)
    go_ret
    exact ⟨H3.out.symm, HB.out⟩
   | false =>
    have H3 := hid (numI_none (HE.out.trans (if_neg (by rw [hsc]; exact Bool.false_ne_true))))
    have N3 := hid (fun u => hsc ▸ SC.out (acc : Int) u)
    clear HE hsc SC
    go_wp2_with (go_at_call 137; (with_reducible refine (N3.out _).mono ?_); rintro e w1 ⟨rfl, rfl⟩)
    go_ret
    exact ⟨H3.out.symm, HB.out⟩
end Go.Proofs.YtdhmpakhdhdebaaGreatDoor
namespace Go.Proofs.YtdhmpakhdhdebaaGreatDoor
open Go.Lib (hid)
open Go.RowKit
set_option maxRecDepth 100000
def fromE (k : Nat) : UInt8 := [116, 98, 110, 114, 102, 34, 39, 92].getD k 0
def toE (k : Nat) : UInt8 := [9, 8, 10, 13, 12, 34, 39, 92].getD k 0
theorem fromE_at : ∀ (n : Nat) (h : n < 8), ({ data := #[116, 98, 110, 114, 102, 34, 39, 92] } : ByteArray)[n]'h = fromE n := by decide
theorem toE_at : ∀ (n : Nat) (h : n < 8), ({ data := #[9, 8, 10, 13, 12, 34, 39, 92] } : ByteArray)[n]'h = toE n := by decide
theorem meantF_hit {k : Nat} (h : k < 8) : meantF (fromE k) = some ((toE k).toNat : Int) := by
 have h7 : k = 0 \/ k = 1 \/ k = 2 \/ k = 3 \/ k = 4 \/ k = 5 \/ k = 6 \/ k = 7 := by omega
 rcases h7 with rfl | rfl | rfl | rfl | rfl | rfl | rfl | rfl <;> decide
theorem meantF_miss {c : UInt8} (h : ∀ j, j < 8 -> fromE j ≠ c) : meantF c = none := by
 have h0 := h 0 (by omega); have h1 := h 1 (by omega); have h2 := h 2 (by omega); have h3 := h 3 (by omega); have h4 := h 4 (by omega); have h5 := h 5 (by omega); have h6 := h 6 (by omega); have h7 := h 7 (by omega)
 simp [fromE] at h0 h1 h2 h3 h4 h5 h6 h7
 unfold meantF
 rw [if_neg (fun e => h0 e.symm), if_neg (fun e => h1 e.symm), if_neg (fun e => h2 e.symm), if_neg (fun e => h3 e.symm), if_neg (fun e => h4 e.symm), if_neg (fun e => h5 e.symm), if_neg (fun e => h6 e.symm), if_neg (fun e => h7 e.symm)]
theorem escPair {way : Int} {r : List UInt8} {v : Int} {n : Nat} (h : escN way r = (v, n)) : Ending.returned (pairI (escN way r)) = .returned (.tuple #[.int .i64 v, .int .i64 (n : Int)]) := by rw [h]; rfl
set_option maxHeartbeats 3200000 in
theorem refEscape_l (way : Int) (l : List UInt8) (i : Nat) (w : World) (hl : l.length <= 4611686018427387904) (hi : i < l.length) :
  Calls Tryz.prog 207 #[.string (B l), .int .i64 (i : Int), .int .i64 way] w fun e w' => e = .returned (pairI (escN way (l.drop i))) /\ Below w.heap.size w w' := by
 have hbw : Below w.heap.size w w := Below.refl _ _
 by_cases h1 : l.length <= i + 1
 ·have e1 : decide ((l.length : Int) <= (i : Int) + 1) = true := decide_eq_true (by omega)
  have HE : Hid (escN way (l.drop i) = (0, 0)) := hid (by
   rw [List.drop_eq_getElem_cons hi, List.drop_eq_nil_of_le h1]; rw [escN]; intro a b t h; simp at h)
  have HP := hid (escPair HE.out)
  go_enter Tryz.func207, Tryz.ntmps207
  go_wp2_with fail
  go_ret2
  exact ⟨HP.out.symm, Below.refl _ _⟩
 have hlt : i + 1 < l.length := by omega
 have e1 : decide ((l.length : Int) <= (i : Int) + 1) = false := decide_eq_false (by omega)
 have j0 : 0 <= (i : Int) + 1 := by omega
 have j1 : (i : Int) + 1 < (l.length : Int) := by omega
 have hd : l.drop i = l[i] :: l[i + 1] :: l.drop (i + 2) := by rw [List.drop_eq_getElem_cons hi, List.drop_eq_getElem_cons hlt]
 obtain ⟨c, hc⟩ : ∃ c, l[i + 1] = c := ⟨_, rfl⟩
 have HX : Hid (escN way (l.drop i) = if c = 117 then pairN 6 (numF (l.drop (i + 2)) 4) else if c = 85 then pairN 10 (numF (l.drop (i + 2)) 8) else if way = 1 then pairN 2 (meantF c) else (0, 0)) := hid (by rw [hd, escN, hc])
 have NB := hid (fun (k : Nat) (hk : k <= 8) (u : World) => refNumber_l l (i + 2) k u hk hl (by omega))
 clear hd h1
 by_cases c1 : c = 117
 ·have q1 : ((c.toNat : Int) == 117) = true := by rw [c1]; rfl
  rw [if_pos c1] at HX
  have N4 : ∀ u, Calls Tryz.prog 233 #[.string (B l), .int .i64 ((i : Int) + 2), .int .i64 4] u fun e w' => e = .returned (.int .i64 (numI (numF (l.drop (i + 2)) 4))) /\ Below u.heap.size u w' := NB.out 4 (by omega)
  cases hq : numF (l.drop (i + 2)) 4 with
  | none =>
   have HP := hid (escPair (HX.out.trans (by rw [hq, pairN])))
   rw [hq] at N4
   simp only [numI] at N4
   have N5 := hid N4
   clear N4 NB HX c1 hq
   go_enter Tryz.func207, Tryz.ntmps207
   go_wp2_with (go_at_call 233; (with_reducible refine (N5.out _).mono ?_); rintro e w1 ⟨rfl, hb⟩; have HB1 := hid hb; clear hb)
   go_ret2
   exact ⟨HP.out.symm, HB1.out⟩
  | some r =>
   have hr := (numF_some hq).2
   have hr0 : 0 <= r := by unfold scal at hr; simp at hr; omega
   have hr1 : r <= 1114111 := by unfold scal at hr; simp at hr; omega
   have HP := hid (escPair (HX.out.trans (by rw [hq, pairN])))
   rw [hq] at N4
   simp only [numI] at N4
   have N5 := hid N4
   have q2 : decide (r < 0) = false := decide_eq_false (by omega)
   clear N4 NB HX c1 hq hr
   go_enter Tryz.func207, Tryz.ntmps207
   go_wp2_with (go_at_call 233; (with_reducible refine (N5.out _).mono ?_); rintro e w1 ⟨rfl, hb⟩; have HB1 := hid hb; clear hb)
   go_ret2
   exact ⟨HP.out.symm, HB1.out⟩
 have q1 : ((c.toNat : Int) == 117) = false := byte_ne (d := 117) c1
 rw [if_neg c1] at HX
 by_cases c2 : c = 85
 ·have q2 : ((c.toNat : Int) == 85) = true := by rw [c2]; rfl
  rw [if_pos c2] at HX
  have N4 : ∀ u, Calls Tryz.prog 233 #[.string (B l), .int .i64 ((i : Int) + 2), .int .i64 8] u fun e w' => e = .returned (.int .i64 (numI (numF (l.drop (i + 2)) 8))) /\ Below u.heap.size u w' := NB.out 8 (by omega)
  cases hq : numF (l.drop (i + 2)) 8 with
  | none =>
   have HP := hid (escPair (HX.out.trans (by rw [hq, pairN])))
   rw [hq] at N4
   simp only [numI] at N4
   have N5 := hid N4
   clear N4 NB HX c1 c2 hq
   go_enter Tryz.func207, Tryz.ntmps207
   go_wp2_with (go_at_call 233; (with_reducible refine (N5.out _).mono ?_); rintro e w1 ⟨rfl, hb⟩; have HB1 := hid hb; clear hb)
   go_ret2
   exact ⟨HP.out.symm, HB1.out⟩
  | some r =>
   have hr := (numF_some hq).2
   have hr0 : 0 <= r := by unfold scal at hr; simp at hr; omega
   have hr1 : r <= 1114111 := by unfold scal at hr; simp at hr; omega
   have HP := hid (escPair (HX.out.trans (by rw [hq, pairN])))
   rw [hq] at N4
   simp only [numI] at N4
   have N5 := hid N4
   have q3 : decide (r < 0) = false := decide_eq_false (by omega)
   clear N4 NB HX c1 c2 hq hr
   go_enter Tryz.func207, Tryz.ntmps207
   go_wp2_with (go_at_call 233; (with_reducible refine (N5.out _).mono ?_); rintro e w1 ⟨rfl, hb⟩; have HB1 := hid hb; clear hb)
   go_ret2
   exact ⟨HP.out.symm, HB1.out⟩
 have q2 : ((c.toNat : Int) == 85) = false := byte_ne (d := 85) c2
 rw [if_neg c2] at HX
 clear NB c1 c2
 obtain ⟨yes, hyes⟩ : ∃ yes : Bool, (way == 1) = yes := ⟨_, rfl⟩
 have HY := hid hyes
 go_enter Tryz.func207, Tryz.ntmps207
 go_wp2_with fail
 go_loopw [11] (fun z wr => ∃ k : Nat, k <= 8 /\ z = .int .i64 k /\ Hid (∀ j, j < k -> fromE j ≠ c) /\ Below w.heap.size w wr) (fun z _ => 8 - (intOf z).toNat)
 case atStart => exact ⟨0, by omega, rfl, hid (fun j hj => by omega), hbw⟩
 case round =>
  obtain ⟨k, hk, rfl, HN, hb⟩ := hrel
  have HB := hid hb
  clear hb hbw
  by_cases hlt : k < 8
  ·have q11 : decide ((k : Int) < 8) = true := decide_eq_true (by omega)
   have fx := fromE_at k hlt
   have tx := toE_at k hlt
   have fl := (fromE k).toNat_lt
   have tl := (toE k).toNat_lt
   have k0 : 0 <= (k : Int) := by omega
   have k1 : (k : Int) < 8 := by omega
   cases yes with
   | false =>
    have HE : Hid (escN way (l.drop i) = (0, 0)) := hid (by rw [HX.out, if_neg (beq_eq_false_iff_ne.1 HY.out)])
    have HP := hid (escPair HE.out)
    clear HX HN
    go_wp2_with fail
    go_ret2
    exact ⟨HP.out.symm, HB.out⟩
   | true =>
    by_cases he : fromE k = c
    ·have e2 : (((fromE k).toNat : Int) == (c.toNat : Int)) = true := by rw [he]; simp
     have HP := hid (escPair (v := ((toE k).toNat : Int)) (n := 2) (HX.out.trans (by rw [if_pos (beq_iff_eq.1 HY.out), <- he, meantF_hit hlt]; rfl)))
     clear HX HN he
     go_wp2_with fail
     go_ret2
     exact ⟨HP.out.symm, HB.out⟩
    ·have e2 : (((fromE k).toNat : Int) == (c.toNat : Int)) = false := beq_eq_false_iff_ne.2 (fun h => he (UInt8.toNat_inj.1 (by omega)))
     have HN2 : Hid (∀ j, j < k + 1 -> fromE j ≠ c) := hid (fun j hj => by
      by_cases hjk : j = k
      ·rw [hjk]; exact he
      ·exact HN.out j (by omega))
     clear HX HN he
     go_wp2_with fail
     go_roundw
     case rel => exact ⟨k + 1, by omega, by go_num, HN2, HB.out⟩
     case measure => simp [intOf]; omega
  ·have q11 : decide ((k : Int) < 8) = false := decide_eq_false (by omega)
   have HE : Hid (escN way (l.drop i) = (0, 0)) := hid (by
    rw [HX.out, meantF_miss (fun j hj => HN.out j (by omega))]
    split <;> rfl)
   have HP := hid (escPair HE.out)
   clear HX HN
   go_wp2_with fail
   go_ret2
   exact ⟨HP.out.symm, HB.out⟩
end Go.Proofs.YtdhmpakhdhdebaaGreatDoor
