/-
  tesseraref04: digits, hex, number: contracts. By an AI agent.
-/
import Derived.Test.YtdegonmkikfghaaGreatDoorZEscBack0
namespace Go.Proofs.YtdegonmkikfghaaGreatDoor
open Lib (hid)
open Go.RowKit
set_option maxRecDepth 100000
theorem refHex_l (c : UInt8) (w : World) : Calls Tryz.prog 251 #[.int .u8 (c.toNat : Int)] w fun e w' => e = .returned (.int .i64 (hexI c)) /\ w' = w := by
 have hc := c.toNat_lt
 by_cases a : 48 <= c.toNat /\ c.toNat <= 57
 ·have HF : Hid (hexI c = (c.toNat : Int) - 48) := hid (by unfold hexI hexV; rw [if_pos a]; simp only; omega)
  obtain ⟨a1, a2⟩ := a
  go_enter Tryz.func251, Tryz.ntmps251
  go_wp2
  go_ret
  exact ⟨ret_i64 (by have := HF.out; omega), rfl⟩
 by_cases b : 97 <= c.toNat /\ c.toNat <= 102
 ·have HF : Hid (hexI c = (c.toNat : Int) - 87) := hid (by unfold hexI hexV; rw [if_neg a, if_pos b]; simp only; omega)
  clear a
  obtain ⟨b1, b2⟩ := b
  go_enter Tryz.func251, Tryz.ntmps251
  go_wp2
  go_ret
  exact ⟨ret_i64 (by have := HF.out; omega), rfl⟩
 by_cases d : 65 <= c.toNat /\ c.toNat <= 70
 ·have HF : Hid (hexI c = (c.toNat : Int) - 55) := hid (by unfold hexI hexV; rw [if_neg a, if_neg b, if_pos d]; simp only; omega)
  clear a b
  obtain ⟨d1, d2⟩ := d
  go_enter Tryz.func251, Tryz.ntmps251
  go_wp2
  go_ret
  exact ⟨ret_i64 (by have := HF.out; omega), rfl⟩
 ·have HF : Hid (hexI c = -1) := hid (by unfold hexI hexV; rw [if_neg a, if_neg b, if_neg d])
  go_enter Tryz.func251, Tryz.ntmps251
  go_wp2
  all_goals first | omega | (go_ret; exact ⟨ret_i64 HF.out.symm, rfl⟩)
def numI : Option Int -> Int
 | none => -1
 | some r => r
theorem numI_none {t : List UInt8} {k : Nat} (h : numF t k = none) : Ending.returned (.int .i64 (numI (numF t k))) = .returned (.int .i64 (-1)) := by rw [h]; rfl
theorem numI_some {t : List UInt8} {k : Nat} {x : Int} (h : numF t k = some x) : Ending.returned (.int .i64 (numI (numF t k))) = .returned (.int .i64 x) := by rw [h]; rfl
set_option maxHeartbeats 1600000 in
theorem refNumber_l (l : List UInt8) (i k : Nat) (w : World) (hk : k <= 8) (hl : l.length <= 4611686018427387904) (hi : i <= l.length) :
  Calls Tryz.prog 244 #[.string (B l), .int .i64 (i : Int), .int .i64 (k : Int)] w fun e w' => e = .returned (.int .i64 (numI (numF (l.drop i) k))) /\ Below w.heap.size w w' := by
 have HX := hid refHex_l; have SC := hid refScalar_any
 have hb : Below w.heap.size w w := Below.refl _ _
 go_enter Tryz.func244, Tryz.ntmps244
 go_wp2_with fail
 go_loopw [7, 8] (fun a z wr => ∃ acc j : Nat, j <= k /\ acc < 16 ^ j /\ i + j <= l.length /\ a = .int .i64 acc /\ z = .int .i64 j /\ Hid (numV 0 (l.drop i) k = numV acc (l.drop (i + j)) (k - j)) /\ Below w.heap.size w wr) (fun _ z _ => k - (intOf z).toNat)
 case atStart => exact ⟨0, 0, Nat.zero_le _, by decide, hi, rfl, rfl, hid rfl, hb⟩
 case round =>
  obtain ⟨acc, j, hj, ha, hil, rfl, rfl, HN, hb⟩ := hrel
  have hp : 16 ^ j <= 16 ^ 8 := Nat.pow_le_pow_right (by decide) (by omega)
  have ha8 : acc < 4294967296 := Nat.lt_of_lt_of_le ha hp
  have HA := hid ha
  have HB := hid hb
  clear ha hp hb
  by_cases hlt : j < k
  ·have q12 : decide ((j : Int) < (k : Int)) = true := decide_eq_true (by omega)
   obtain ⟨m, hm⟩ : ∃ m, k - j = m + 1 := ⟨k - j - 1, by omega⟩
   by_cases hend : l.length <= i + j
   ·have e1 : decide ((l.length : Int) <= (i : Int) + (j : Int)) = true := decide_eq_true (by omega)
    have HE := hid (numI_none (numF_none (HN.out.trans (by rw [List.drop_eq_nil_of_le hend, hm, numV]))))
    clear HN HX hm
    go_wp2_with fail
    go_ret
    exact ⟨HE.out.symm, HB.out⟩
   ·have hjl : i + j < l.length := by omega
    have e1 : decide ((l.length : Int) <= (i : Int) + (j : Int)) = false := decide_eq_false (by omega)
    have st := numV_step (acc := acc) (n := m) hjl
    rw [<- hm] at st
    cases hd : hexV l[i + j] with
    | none =>
     have HE := hid (numI_none (numF_none (HN.out.trans (by rw [st, hd]))))
     have N2 := hid (fun u => hexI_none hd ▸ HX.out l[i + j] u)
     clear st hd HN HX hm
     go_wp2_with (go_at_call 251; (with_reducible refine (N2.out _).mono ?_); rintro e w1 ⟨rfl, rfl⟩)
     go_ret
     exact ⟨HE.out.symm, HB.out⟩
    | some d =>
     have hd16 := hexV_lt hd
     have HE : Hid (numV 0 (l.drop i) k = numV (acc * 16 + d) (l.drop (i + (j + 1))) (k - (j + 1))) := hid (HN.out.trans (by rw [st, hd, show k - (j + 1) = m by omega, Nat.add_assoc]))
     have N2 := hid (fun u => hexI_some hd ▸ HX.out l[i + j] u)
     have d0 : ((d : Int) < 0) = False := by simp
     clear st hd HN HX hm
     go_wp2_with (go_at_call 251; (with_reducible refine (N2.out _).mono ?_); rintro e w1 ⟨rfl, rfl⟩)
     go_roundw
     case rel =>
      refine ⟨acc * 16 + d, j + 1, by omega, ?_, by omega, by go_num, by go_num, HE, HB.out⟩
      rw [Nat.pow_succ]
      have := HA.out
      omega
     case measure => simp [intOf]; omega
  ·obtain rfl : j = k := by omega
   have q12 : decide ((j : Int) < (j : Int)) = false := decide_eq_false (by omega)
   have HE := hid (numF_of (HN.out.trans (by rw [Nat.sub_self, numV])))
   clear HN
   cases hsc : scal (acc : Int) with
   | true =>
    have H3 := hid (numI_some (HE.out.trans (if_pos hsc)))
    have N3 := hid (fun u => hsc ▸ SC.out (acc : Int) u)
    clear HE hsc SC
    go_wp2_with (go_at_call 175; (with_reducible refine (N3.out _).mono ?_); rintro e w1 ⟨rfl, rfl⟩)
    go_ret
    exact ⟨H3.out.symm, HB.out⟩
   | false =>
    have H3 := hid (numI_none (HE.out.trans (if_neg (by rw [hsc]; exact Bool.false_ne_true))))
    have N3 := hid (fun u => hsc ▸ SC.out (acc : Int) u)
    clear HE hsc SC
    go_wp2_with (go_at_call 175; (with_reducible refine (N3.out _).mono ?_); rintro e w1 ⟨rfl, rfl⟩)
    go_ret
    exact ⟨H3.out.symm, HB.out⟩
end Go.Proofs.YtdegonmkikfghaaGreatDoor
namespace Go.Proofs.YtdegonmkikfghaaGreatDoor
open Lib (hid)
open Go.RowKit
set_option maxRecDepth 100000
def fromE (k : Nat) : UInt8 := [116, 98, 110, 114, 102, 34, 39, 92].getD k 0
def toE (k : Nat) : UInt8 := [9, 8, 10, 13, 12, 34, 39, 92].getD k 0
theorem fromE_at : ∀ (n : Nat) (h : n < 8), ({ data := #[116, 98, 110, 114, 102, 34, 39, 92] } : ByteArray)[n]'h = fromE n := by decide
theorem toE_at : ∀ (n : Nat) (h : n < 8), ({ data := #[9, 8, 10, 13, 12, 34, 39, 92] } : ByteArray)[n]'h = toE n := by decide
theorem meantF_hit {k : Nat} (h : k < 8) : meantF (fromE k) = some ((toE k).toNat : Int) := by
 have h7 : k = 0 \/ k = 1 \/ k = 2 \/ k = 3 \/ k = 4 \/ k = 5 \/ k = 6 \/ k = 7 := by omega
 rcases h7 with rfl | rfl | rfl | rfl | rfl | rfl | rfl | rfl <;> decide
theorem meantF_miss {c : UInt8} (h : ∀ j, j < 8 -> fromE j ≠ c) : meantF c = none := by
 have h0 := h 0 (by omega); have h1 := h 1 (by omega); have h2 := h 2 (by omega); have h3 := h 3 (by omega); have h4 := h 4 (by omega); have h5 := h 5 (by omega); have h6 := h 6 (by omega); have h7 := h 7 (by omega)
 simp [fromE] at h0 h1 h2 h3 h4 h5 h6 h7
 unfold meantF
 rw [if_neg (fun e => h0 e.symm), if_neg (fun e => h1 e.symm), if_neg (fun e => h2 e.symm), if_neg (fun e => h3 e.symm), if_neg (fun e => h4 e.symm), if_neg (fun e => h5 e.symm), if_neg (fun e => h6 e.symm), if_neg (fun e => h7 e.symm)]
theorem escPair {way : Int} {r : List UInt8} {v : Int} {n : Nat} (h : escN way r = (v, n)) : Ending.returned (pairI (escN way r)) = .returned (.tuple #[.int .i64 v, .int .i64 (n : Int)]) := by rw [h]; rfl
set_option maxHeartbeats 3200000 in
theorem refEscape_l (way : Int) (l : List UInt8) (i : Nat) (w : World) (hl : l.length <= 4611686018427387904) (hi : i < l.length) :
  Calls Tryz.prog 223 #[.string (B l), .int .i64 (i : Int), .int .i64 way] w fun e w' => e = .returned (pairI (escN way (l.drop i))) /\ Below w.heap.size w w' := by
 have hbw : Below w.heap.size w w := Below.refl _ _
 by_cases h1 : l.length <= i + 1
 ·have e1 : decide ((l.length : Int) <= (i : Int) + 1) = true := decide_eq_true (by omega)
  have HE : Hid (escN way (l.drop i) = (0, 0)) := hid (by
   rw [List.drop_eq_getElem_cons hi, List.drop_eq_nil_of_le h1]; rw [escN]; intro a b t h; simp at h)
  have HP := hid (escPair HE.out)
  go_enter Tryz.func223, Tryz.ntmps223
  go_wp2_with fail
  go_ret2
  exact ⟨HP.out.symm, Below.refl _ _⟩
 have hlt : i + 1 < l.length := by omega
 have e1 : decide ((l.length : Int) <= (i : Int) + 1) = false := decide_eq_false (by omega)
 have j0 : 0 <= (i : Int) + 1 := by omega
 have j1 : (i : Int) + 1 < (l.length : Int) := by omega
 have hd : l.drop i = l[i] :: l[i + 1] :: l.drop (i + 2) := by rw [List.drop_eq_getElem_cons hi, List.drop_eq_getElem_cons hlt]
 obtain ⟨c, hc⟩ : ∃ c, l[i + 1] = c := ⟨_, rfl⟩
 have HX : Hid (escN way (l.drop i) = if c = 117 then pairN 6 (numF (l.drop (i + 2)) 4) else if c = 85 then pairN 10 (numF (l.drop (i + 2)) 8) else if way = 1 then pairN 2 (meantF c) else (0, 0)) := hid (by rw [hd, escN, hc])
 have NB := hid (fun (k : Nat) (hk : k <= 8) (u : World) => refNumber_l l (i + 2) k u hk hl (by omega))
 clear hd h1
 by_cases c1 : c = 117
 ·have q1 : ((c.toNat : Int) == 117) = true := by rw [c1]; rfl
  rw [if_pos c1] at HX
  have N4 : ∀ u, Calls Tryz.prog 244 #[.string (B l), .int .i64 ((i : Int) + 2), .int .i64 4] u fun e w' => e = .returned (.int .i64 (numI (numF (l.drop (i + 2)) 4))) /\ Below u.heap.size u w' := NB.out 4 (by omega)
  cases hq : numF (l.drop (i + 2)) 4 with
  | none =>
   have HP := hid (escPair (HX.out.trans (by rw [hq, pairN])))
   rw [hq] at N4
   simp only [numI] at N4
   have N5 := hid N4
   clear N4 NB HX c1 hq
   go_enter Tryz.func223, Tryz.ntmps223
   go_wp2_with (go_at_call 244; (with_reducible refine (N5.out _).mono ?_); rintro e w1 ⟨rfl, hb⟩; have HB1 := hid hb; clear hb)
   go_ret2
   exact ⟨HP.out.symm, HB1.out⟩
  | some r =>
   have hr := (numF_some hq).2
   have hr0 : 0 <= r := by unfold scal at hr; simp at hr; omega
   have hr1 : r <= 1114111 := by unfold scal at hr; simp at hr; omega
   have HP := hid (escPair (HX.out.trans (by rw [hq, pairN])))
   rw [hq] at N4
   simp only [numI] at N4
   have N5 := hid N4
   have q2 : decide (r < 0) = false := decide_eq_false (by omega)
   clear N4 NB HX c1 hq hr
   go_enter Tryz.func223, Tryz.ntmps223
   go_wp2_with (go_at_call 244; (with_reducible refine (N5.out _).mono ?_); rintro e w1 ⟨rfl, hb⟩; have HB1 := hid hb; clear hb)
   go_ret2
   exact ⟨HP.out.symm, HB1.out⟩
 have q1 : ((c.toNat : Int) == 117) = false := byte_ne (d := 117) c1
 rw [if_neg c1] at HX
 by_cases c2 : c = 85
 ·have q2 : ((c.toNat : Int) == 85) = true := by rw [c2]; rfl
  rw [if_pos c2] at HX
  have N4 : ∀ u, Calls Tryz.prog 244 #[.string (B l), .int .i64 ((i : Int) + 2), .int .i64 8] u fun e w' => e = .returned (.int .i64 (numI (numF (l.drop (i + 2)) 8))) /\ Below u.heap.size u w' := NB.out 8 (by omega)
  cases hq : numF (l.drop (i + 2)) 8 with
  | none =>
   have HP := hid (escPair (HX.out.trans (by rw [hq, pairN])))
   rw [hq] at N4
   simp only [numI] at N4
   have N5 := hid N4
   clear N4 NB HX c1 c2 hq
   go_enter Tryz.func223, Tryz.ntmps223
   go_wp2_with (go_at_call 244; (with_reducible refine (N5.out _).mono ?_); rintro e w1 ⟨rfl, hb⟩; have HB1 := hid hb; clear hb)
   go_ret2
   exact ⟨HP.out.symm, HB1.out⟩
  | some r =>
   have hr := (numF_some hq).2
   have hr0 : 0 <= r := by unfold scal at hr; simp at hr; omega
   have hr1 : r <= 1114111 := by unfold scal at hr; simp at hr; omega
   have HP := hid (escPair (HX.out.trans (by rw [hq, pairN])))
   rw [hq] at N4
   simp only [numI] at N4
   have N5 := hid N4
   have q3 : decide (r < 0) = false := decide_eq_false (by omega)
   clear N4 NB HX c1 c2 hq hr
   go_enter Tryz.func223, Tryz.ntmps223
   go_wp2_with (go_at_call 244; (with_reducible refine (N5.out _).mono ?_); rintro e w1 ⟨rfl, hb⟩; have HB1 := hid hb; clear hb)
   go_ret2
   exact ⟨HP.out.symm, HB1.out⟩
 have q2 : ((c.toNat : Int) == 85) = false := byte_ne (d := 85) c2
 rw [if_neg c2] at HX
 clear NB c1 c2
 obtain ⟨yes, hyes⟩ : ∃ yes : Bool, (way == 1) = yes := ⟨_, rfl⟩
 have HY := hid hyes
 go_enter Tryz.func223, Tryz.ntmps223
 go_wp2_with fail
 go_loopw [11] (fun z wr => ∃ k : Nat, k <= 8 /\ z = .int .i64 k /\ Hid (∀ j, j < k -> fromE j ≠ c) /\ Below w.heap.size w wr) (fun z _ => 8 - (intOf z).toNat)
 case atStart => exact ⟨0, by omega, rfl, hid (fun j hj => by omega), hbw⟩
 case round =>
  obtain ⟨k, hk, rfl, HN, hb⟩ := hrel
  have HB := hid hb
  clear hb hbw
  by_cases hlt : k < 8
  ·have q11 : decide ((k : Int) < 8) = true := decide_eq_true (by omega)
   have fx := fromE_at k hlt
   have tx := toE_at k hlt
   have fl := (fromE k).toNat_lt
   have tl := (toE k).toNat_lt
   have k0 : 0 <= (k : Int) := by omega
   have k1 : (k : Int) < 8 := by omega
   cases yes with
   | false =>
    have HE : Hid (escN way (l.drop i) = (0, 0)) := hid (by rw [HX.out, if_neg (beq_eq_false_iff_ne.1 HY.out)])
    have HP := hid (escPair HE.out)
    clear HX HN
    go_wp2_with fail
    go_ret2
    exact ⟨HP.out.symm, HB.out⟩
   | true =>
    by_cases he : fromE k = c
    ·have e2 : (((fromE k).toNat : Int) == (c.toNat : Int)) = true := by rw [he]; simp
     have HP := hid (escPair (v := ((toE k).toNat : Int)) (n := 2) (HX.out.trans (by rw [if_pos (beq_iff_eq.1 HY.out), <- he, meantF_hit hlt]; rfl)))
     clear HX HN he
     go_wp2_with fail
     go_ret2
     exact ⟨HP.out.symm, HB.out⟩
    ·have e2 : (((fromE k).toNat : Int) == (c.toNat : Int)) = false := beq_eq_false_iff_ne.2 (fun h => he (UInt8.toNat_inj.1 (by omega)))
     have HN2 : Hid (∀ j, j < k + 1 -> fromE j ≠ c) := hid (fun j hj => by
      by_cases hjk : j = k
      ·rw [hjk]; exact he
      ·exact HN.out j (by omega))
     clear HX HN he
     go_wp2_with fail
     go_roundw
     case rel => exact ⟨k + 1, by omega, by go_num, HN2, HB.out⟩
     case measure => simp [intOf]; omega
  ·have q11 : decide ((k : Int) < 8) = false := decide_eq_false (by omega)
   have HE : Hid (escN way (l.drop i) = (0, 0)) := hid (by
    rw [HX.out, meantF_miss (fun j hj => HN.out j (by omega))]
    split <;> rfl)
   have HP := hid (escPair HE.out)
   clear HX HN
   go_wp2_with fail
   go_ret2
   exact ⟨HP.out.symm, HB.out⟩
end Go.Proofs.YtdegonmkikfghaaGreatDoor
namespace Go.Proofs.YtdegonmkikfghaaGreatDoor
open Lib (hid)
open Go.RowKit
set_option maxRecDepth 100000
theorem fault_new (w : World) : RowAt (w.alloc (.cells #[.int .i64 0, .int .i64 0] 125)) w.heap.size [.int .i64 0, .int .i64 0] := rowAt_of_heap (L := [.int .i64 0, .int .i64 0]) (t := 125) (heap_alloc_new _ _)
theorem row_two {w : World} {g : Nat} {a b : Value} (h : RowAt w g [a, b]) : w.cell? ⟨g, 0, none⟩ = some a /\ w.cell? ⟨g, 1, none⟩ = some b /\ w.frozen? ⟨g, 0, none⟩ = false /\ w.frozen? ⟨g, 1, none⟩ = false /\ g < w.heap.size :=
 ⟨h.cell (j := 0) (by simp), h.cell (j := 1) (by simp), h.free (j := 0) (by simp), h.free (j := 1) (by simp), World.block_lt_of_cell? _ _ (h.cell (j := 0) (by simp))⟩
def unescV : List UInt8 ⊕ (Nat × Int) -> Value
 | .inl t => .tuple #[.string (B t), .agg #[.int .i64 0, .int .i64 0]]
 | .inr (p, e) => .tuple #[.string ⟨#[]⟩, .agg #[.int .i64 (p : Int), .int .i64 e]]
theorem byU_cells (r : Int) : (bytesOf r).map (Value.int .u8) = (byU r).map U8 := bytesU_cells r
theorem nextAt_of_ascii {l : List UInt8} {j : Nat} (h : (l.getD j 0).toNat < 128) (hj : j < l.length) : nextAt l (j : Int) = (((l.getD j 0).toNat : Int), 1) := by
 rw [nextAt_nat, List.drop_eq_getElem_cons hj]
 have e : l.getD j 0 = l[j] := by simp [List.getD, hj]
 rw [e] at h ⊢
 exact nextP_1 h
set_option maxHeartbeats 3200000 in
theorem refUnesc_l (way : Int) (l : List UInt8) (w : World) (hl : l.length <= 16777216) :
  Calls Tryz.prog 171 #[.string (B l), .int .i64 way] w fun e w' => e = .returned (unescV (unescF way l 0)) /\ Below w.heap.size w w' := by
 have NX := hid (fun (j : Nat) (hj : j < l.length) (v : Int) (n : Nat) (h : nextAt l (j : Int) = (v, n)) (u : World) => (by have := refNext_l l j u (by omega) (by omega); rw [h] at this; exact this : Calls Tryz.prog 91 #[.string (B l), .int .i64 (j : Int)] u fun e w' => e = .returned (.tuple #[.int .i64 v, .int .i64 (n : Int)]) /\ Below u.heap.size u w'))
 have ES := hid (fun (j : Nat) (hj : j < l.length) (v : Int) (n : Nat) (h : escN way (l.drop j) = (v, n)) (u : World) => (by have := refEscape_l way l j u (by omega) hj; rw [h] at this; exact this : Calls Tryz.prog 223 #[.string (B l), .int .i64 (j : Int), .int .i64 way] u fun e w' => e = .returned (.tuple #[.int .i64 v, .int .i64 (n : Int)]) /\ Below u.heap.size u w'))
 have BY := hid (fun (v : Int) (h0 : 0 <= v) (h1 : v <= 1114111) (u : World) => refBytes_any v u h0 h1)
 have F0 := hid (fault_new w)
 have B0 : Hid (Below w.heap.size w (w.alloc (.cells #[.int .i64 0, .int .i64 0] 125))) := hid ((Below.refl _ _).alloc (Nat.le_refl _) _)
 go_enter Tryz.func171, Tryz.ntmps171
 go_wp2_with fail
 go_loopw [6, 7] (fun v i wr => ∃ (j : Nat) (acc : List UInt8), i = .int .i64 j /\ j <= l.length /\ acc.length <= 4 * j /\ Hid (unescF way l 0 = putF acc (unescF way l j)) /\ Hid (BOwn (w.heap.size + 1) v acc wr) /\ Hid (Below w.heap.size w wr) /\ Hid (RowAt wr w.heap.size [.int .i64 0, .int .i64 0]) /\ w.heap.size + 1 <= wr.heap.size) (fun _ i _ => l.length - (intOf i).toNat)
 case atStart => exact ⟨0, [], rfl, Nat.zero_le _, Nat.zero_le _, hid (by cases unescF way l 0 <;> rfl), hid (BOwn.nil _ _), B0, F0, by simp⟩
 case round =>
  obtain ⟨j, acc, rfl, hj, hacc, HS, HO, HB, HF, hsz⟩ := hrel
  clear F0 B0
  by_cases hlt : j < l.length
  ·have q19 : decide ((j : Int) < (l.length : Int)) = true := decide_eq_true (by omega)
   obtain ⟨v, n, hq⟩ : ∃ v n, nextAt l (j : Int) = (v, n) := ⟨_, _, rfl⟩
   have N2 := hid (NX.out j hlt v n hq)
   by_cases hn : n = 0
   ·have e0 : ((n : Int) == 0) = true := by rw [hn]; rfl
    have h92 : l.getD j 0 ≠ 92 := by
     intro h
     have := nextAt_of_ascii (l := l) (j := j) (by rw [h]; decide) hlt
     rw [hq, hn] at this
     simp at this
    have HE : Hid (unescF way l 0 = .inr (j, 40)) := hid (by rw [HS.out, unescF_bad (v := v) (e := 40) hlt (by unfold atF; rw [if_neg h92, hq, hn])]; rfl)
    clear hq hn h92 HS NX ES BY
    go_wp2_with (go_at_call 91; (with_reducible refine (N2.out _).mono ?_); rintro e w2 ⟨rfl, hb2⟩; have HB2 := hid (HB.out.trans (hb2.mono HB.out.size)); obtain ⟨c0, c1, f0, f1, hg⟩ := row_two (rowAt_below HF.out hb2); clear hb2)
    refine bodyPost_ret (v := .tuple #[.string ⟨#[]⟩, .agg #[.int .i64 (j : Int), .int .i64 40]]) (by simp [results, Tryz.results171, go_sem, c0, c1]) rfl ?_
    rw [HE.out]
    exact ⟨rfl, (HB2.out.setCell (p := ⟨w.heap.size, 0, none⟩) (Nat.le_refl _) _).setCell (p := ⟨w.heap.size, 1, none⟩) (Nat.le_refl _) _⟩
   have e0 : ((n : Int) == 0) = false := beq_eq_false_iff_ne.2 (by omega)
   have hbd := nextAt_bound hq hn
   by_cases h92 : l.getD j 0 = 92
   ·have hv : v = 92 := by
     have := nextAt_of_ascii (l := l) (j := j) (by rw [h92]; decide) hlt
     rw [hq, h92] at this
     exact (Prod.mk.inj this).1
    have e1 : (v == 92) = true := beq_iff_eq.2 hv
    obtain ⟨r, m, hr⟩ : ∃ r m, escN way (l.drop j) = (r, m) := ⟨_, _, rfl⟩
    have E2 := hid (ES.out j hlt r m hr)
    by_cases hm : m = 0
    ·have e2 : ((m : Int) == 0) = true := by rw [hm]; rfl
     have HE : Hid (unescF way l 0 = .inr (j, 41)) := hid (by rw [HS.out, unescF_bad (v := r) (e := 41) hlt (by unfold atF; rw [if_pos h92, hr, hm])]; rfl)
     clear hq hn h92 HS NX ES BY hr hm hv hbd
     go_wp2_with (first
      | (go_at_call 91; (with_reducible refine (N2.out _).mono ?_); rintro e w2 ⟨rfl, hb2⟩; have HB2 := hid (HB.out.trans (hb2.mono HB.out.size)); have HF2 := hid (rowAt_below HF.out hb2); clear hb2)
      | (go_at_call 223; (with_reducible refine (E2.out _).mono ?_); rintro e w3 ⟨rfl, hb3⟩; have HB3 := hid (HB2.out.trans (hb3.mono HB2.out.size)); obtain ⟨c0, c1, f0, f1, hg⟩ := row_two (rowAt_below HF2.out hb3); clear hb3))
     refine bodyPost_ret (v := .tuple #[.string ⟨#[]⟩, .agg #[.int .i64 (j : Int), .int .i64 41]]) (by simp [results, Tryz.results171, go_sem, c0, c1]) rfl ?_
     rw [HE.out]
     exact ⟨rfl, (HB3.out.setCell (p := ⟨w.heap.size, 0, none⟩) (Nat.le_refl _) _).setCell (p := ⟨w.heap.size, 1, none⟩) (Nat.le_refl _) _⟩
    ·have e2 : ((m : Int) == 0) = false := beq_eq_false_iff_ne.2 (by omega)
     obtain ⟨hml, hsc⟩ := escN_bound hr hm
     have hjm : j + m <= l.length := by simp at hml; omega
     have hm1 : 1 <= m := by omega
     obtain ⟨r0, r1, _⟩ := scal_cases hsc
     have HE : Hid (unescF way l 0 = putF (acc ++ byU r) (unescF way l (j + m))) := hid (by rw [HS.out, unescF_go hlt (show atF way l j = ((r, m), 41) by unfold atF; rw [if_pos h92, hr]) hm, putF_put])
     have BR := hid (fun u => BY.out r r0 (by omega) u)
     have hbl := byU_len r
     have hlx : acc.length + (byU r).length <= 140737488355328 := by omega
     have hal : (acc ++ byU r).length <= 4 * (j + m) := by simp; omega
     clear hq hn h92 HS NX ES BY hr hm hv hbd hml hsc
     go_wp2_with (first
      | (go_at_call 91; (with_reducible refine (N2.out _).mono ?_); rintro e w2 ⟨rfl, hb2⟩; have HO2 := hid (HO.out.below hb2); have HB2 := hid (HB.out.trans (hb2.mono HB.out.size)); have HF2 := hid (rowAt_below HF.out hb2); have hs2 := hb2.size; clear hb2)
      | (go_at_call 223; (with_reducible refine (E2.out _).mono ?_); rintro e w3 ⟨rfl, hb3⟩; have HO3 := hid (HO2.out.below hb3); have HB3 := hid (HB2.out.trans (hb3.mono HB2.out.size)); have HF3 := hid (rowAt_below HF2.out hb3); have hs3 := hb3.size; clear hb3)
      | (go_at_call 139; (with_reducible refine (BR.out _).mono ?_); rintro e w4 ⟨c4, rfl, ha4, hb4⟩; have HA4 := hid (byU_cells r ▸ ha4); have HO4 := hid (HO3.out.below hb4); have HB4 := hid (HB3.out.trans (hb4.mono HB3.out.size)); have HF4 := hid (rowAt_below HF3.out hb4); have hs4 := hb4.size; clear hb4 ha4)
      | (at_builtin; refine wpList_app_bytes rfl (.tmp 37) (.tmp 39) rfl (w.heap.size + 1) _ acc (byU r) rfl HO4.out _ _ _ rfl (bytesU_length r).symm HA4.out hlx (by omega) ?_; intro v5 w5 hO5 hg5; have HO5 := hid hO5; have HB5 := hid (below_own HB4.out HO4.out hg5 (by omega)); have HF5 := hid (rowAt_own HF4.out HO4.out hg5 (by omega)); have hs5 := hg5.size; clear hO5 hg5))
     go_roundw
     case rel => exact ⟨j + m, acc ++ byU r, by go_num, hjm, hal, HE, HO5, HB5, HF5, by omega⟩
     case measure => simp [intOf]; omega
   ·have hv : v ≠ 92 := by
     intro h
     have h1 := nextAt_ascii hq hn (by omega)
     have h2 := (nextAt_bytes hq hn).1
     rw [h, h1] at h2
     have h3 : (l.drop j).take 1 = [l.getD j 0] := by
      rw [List.drop_eq_getElem_cons hlt, List.take_succ_cons, List.take_zero]; simp [List.getD, hlt]
     rw [h3] at h2
     have h4 : byU 92 = [92] := by decide
     rw [h4] at h2
     exact h92 (List.cons.inj h2).1.symm
    have e1 : (v == 92) = false := beq_eq_false_iff_ne.2 hv
    have hjn : j + n <= l.length := by omega
    have hn1 : 1 <= n := by omega
    have HE : Hid (unescF way l 0 = putF (acc ++ byU v) (unescF way l (j + n))) := hid (by rw [HS.out, unescF_go hlt (show atF way l j = ((v, n), 40) by unfold atF; rw [if_neg h92, hq]) hn, putF_put])
    have BR := hid (fun u => BY.out v hbd.2.2.1 hbd.2.2.2 u)
    have hbl := byU_len v
    have hlx : acc.length + (byU v).length <= 140737488355328 := by omega
    have hal : (acc ++ byU v).length <= 4 * (j + n) := by simp; omega
    clear hq hn h92 HS NX ES BY hv hbd
    go_wp2_with (first
     | (go_at_call 91; (with_reducible refine (N2.out _).mono ?_); rintro e w3 ⟨rfl, hb3⟩; have HO3 := hid (HO.out.below hb3); have HB3 := hid (HB.out.trans (hb3.mono HB.out.size)); have HF3 := hid (rowAt_below HF.out hb3); have hs3 := hb3.size; clear hb3)
     | (go_at_call 139; (with_reducible refine (BR.out _).mono ?_); rintro e w4 ⟨c4, rfl, ha4, hb4⟩; have HA4 := hid (byU_cells v ▸ ha4); have HO4 := hid (HO3.out.below hb4); have HB4 := hid (HB3.out.trans (hb4.mono HB3.out.size)); have HF4 := hid (rowAt_below HF3.out hb4); have hs4 := hb4.size; clear hb4 ha4)
     | (at_builtin; refine wpList_app_bytes rfl (.tmp 37) (.tmp 39) rfl (w.heap.size + 1) _ acc (byU v) rfl HO4.out _ _ _ rfl (bytesU_length v).symm HA4.out hlx (by omega) ?_; intro v5 w5 hO5 hg5; have HO5 := hid hO5; have HB5 := hid (below_own HB4.out HO4.out hg5 (by omega)); have HF5 := hid (rowAt_own HF4.out HO4.out hg5 (by omega)); have hs5 := hg5.size; clear hO5 hg5))
    go_roundw
    case rel => exact ⟨j + n, acc ++ byU v, by go_num, hjn, hal, HE, HO5, HB5, HF5, by omega⟩
    case measure => simp [intOf]; omega
  ·have q19 : decide ((j : Int) < (l.length : Int)) = false := decide_eq_false (by omega)
   have HE : Hid (unescF way l 0 = .inl acc) := hid (by rw [HS.out, unescF_end (by omega)]; simp [putF])
   have hback := HO.out.back
   obtain ⟨c0, c1, f0, f1, hg⟩ := row_two HF.out
   clear HS NX ES BY HF
   go_wp2_with fail
   refine bodyPost_ret (v := .tuple #[.string (B acc), .agg #[.int .i64 0, .int .i64 0]]) (by simp [results, Tryz.results171, go_sem, c0, c1]) rfl ?_
   rw [HE.out]
   exact ⟨rfl, (HB.out.setCell (p := ⟨w.heap.size, 0, none⟩) (Nat.le_refl _) _).setCell (p := ⟨w.heap.size, 1, none⟩) (Nat.le_refl _) _⟩
end Go.Proofs.YtdegonmkikfghaaGreatDoor
