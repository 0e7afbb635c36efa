/-
  tesseraref10.Blank, digits, power: contracts. By an AI agent.
-/
import Derived.Test.YtdhmpakhdhdebaaGreatDoorZRefNx1
import Derived.Test.YtdhmpakhdhdebaaGreatDoorZShapes
namespace Go.Proofs.YtdhmpakhdhdebaaGreatDoor
open Go.Lib (hid)
open Go.RowKit
set_option maxRecDepth 100000
set_option maxHeartbeats 3200000 in
theorem refBlank_l (l : List UInt8) (i : Nat) (w : World) (hi : i <= l.length) (hl : l.length <= 4611686018427387904) : Calls Tryz.prog 75 #[.string (B l), .int .i64 (i : Int)] w fun e w' => e = .returned (.int .i64 (gapF l i : Nat)) /\ w' = w := by
 go_enter Tryz.func75, Tryz.ntmps75
 go_wp2
 go_loopw [1] (fun z wr => ∃ k : Nat, z = .int .i64 (k : Int) /\ i <= k /\ k <= l.length /\ Hid (gapF l k = gapF l i) /\ wr = w) (fun z _ => l.length - (intOf z).toNat)
 case atStart => exact ⟨i, rfl, Nat.le_refl _, hi, hid rfl, rfl⟩
 case round =>
  obtain ⟨k, rfl, hik, hk, HE, hw⟩ := hrel
  obtain ⟨W0, hW0⟩ : ∃ W0 : World, W0 = wr := ⟨_, rfl⟩
  subst hW0
  have hw2 := hid hw
  clear hw
  have k0 : (0 : Int) <= (k : Int) := by omega
  by_cases hlt : k < l.length
  ·have c1 : decide ((k : Int) < (l.length : Int)) = true := decide_eq_true (by omega)
   have c2 : decide (k < l.length) = true := decide_eq_true hlt
   have c3 : (k : Int) < (l.length : Int) := by omega
   have hg : l.getD k 0 = l[k] := by simp [List.getD, hlt]
   have WA : IntKind.i64.wrap ((k : Int) + 1) = (k : Int) + 1 := IntWalk.i64_in _ (by omega)
   by_cases h32 : l[k] = 32
   ·have y32 : ((l[k].toNat : Int) == 32) = true := by rw [h32]; rfl
    have HN : Hid (gapF l (k + 1) = gapF l i) := hid (by rw [<- HE.out, gapF_blank hlt (by rw [hg, h32]; rfl)])
    clear HE hg h32
    go_wp2
    go_roundw
    case rel => exact ⟨k + 1, by go_num, by omega, by omega, HN, hw2.out⟩
    case measure => simp [intOf]; omega
   have n32 : ((l[k].toNat : Int) == 32) = false := byte_ne (d := 32) h32
   by_cases h9 : l[k] = 9
   ·have y9 : ((l[k].toNat : Int) == 9) = true := by rw [h9]; rfl
    have HN : Hid (gapF l (k + 1) = gapF l i) := hid (by rw [<- HE.out, gapF_blank hlt (by rw [hg, h9]; rfl)])
    clear HE hg h9
    go_wp2
    go_roundw
    case rel => exact ⟨k + 1, by go_num, by omega, by omega, HN, hw2.out⟩
    case measure => simp [intOf]; omega
   have n9 : ((l[k].toNat : Int) == 9) = false := byte_ne (d := 9) h9
   by_cases h13 : l[k] = 13
   ·have y13 : ((l[k].toNat : Int) == 13) = true := by rw [h13]; rfl
    have HN : Hid (gapF l (k + 1) = gapF l i) := hid (by rw [<- HE.out, gapF_blank hlt (by rw [hg, h13]; rfl)])
    clear HE hg h13
    go_wp2
    go_roundw
    case rel => exact ⟨k + 1, by go_num, by omega, by omega, HN, hw2.out⟩
    case measure => simp [intOf]; omega
   have n13 : ((l[k].toNat : Int) == 13) = false := byte_ne (d := 13) h13
   by_cases h10 : l[k] = 10
   ·have y10 : ((l[k].toNat : Int) == 10) = true := by rw [h10]; rfl
    have HN : Hid (gapF l (k + 1) = gapF l i) := hid (by rw [<- HE.out, gapF_blank hlt (by rw [hg, h10]; rfl)])
    clear HE hg h10
    go_wp2
    go_roundw
    case rel => exact ⟨k + 1, by go_num, by omega, by omega, HN, hw2.out⟩
    case measure => simp [intOf]; omega
   have n10 : ((l[k].toNat : Int) == 10) = false := byte_ne (d := 10) h10
   have nb : blankC l[k] = false := by unfold blankC; simp [h32, h9, h13, h10]
   by_cases h35 : l[k] = 35
   ·have y35 : ((l[k].toNat : Int) == 35) = true := by rw [h35]; rfl
    have ne : eolC (l.getD k 0) = false := by rw [hg, h35]; rfl
    have e1 := eolF_go hlt ne
    have hbd := eolF_bound l l.length (k + 1) (by omega) (by omega)
    have HN : Hid (gapF l (eolF l k) = gapF l i) := hid (by rw [<- HE.out, gapF_hash hlt (by rw [hg]; exact h35), e1])
    have hm : k < eolF l k := by omega
    have HM := hid hm
    clear HE hg h35 e1 ne nb hbd h32 h9 h13 h10 hm
    go_wp2
    go_loopw [1] (fun z wr => ∃ j : Nat, z = .int .i64 (j : Int) /\ k <= j /\ j <= l.length /\ Hid (eolF l j = eolF l k) /\ wr = w) (fun z _ => l.length - (intOf z).toNat)
    case atStart => exact ⟨k, rfl, Nat.le_refl _, hk, hid rfl, hw2.out⟩
    case round =>
     obtain ⟨j, rfl, hkj, hj, HF, hwj⟩ := hrel
     have hw3 := hid hwj
     clear hwj
     have j0 : (0 : Int) <= (j : Int) := by omega
     have WJ : IntKind.i64.wrap ((j : Int) + 1) = (j : Int) + 1 := IntWalk.i64_in _ (by omega)
     by_cases hjl : j < l.length
     ·have d1 : decide ((j : Int) < (l.length : Int)) = true := decide_eq_true (by omega)
      have d2 : decide (j < l.length) = true := decide_eq_true hjl
      have d3 : (j : Int) < (l.length : Int) := by omega
      have hg : l.getD j 0 = l[j] := by simp [List.getD, hjl]
      by_cases h13 : l[j] = 13
      ·have y13 : ((l[j].toNat : Int) != 13) = false := by rw [h13]; rfl
       have HN2 : Hid (gapF l j = gapF l i /\ k < j) := hid (by
        have e : eolF l j = j := eolF_hit hjl (by rw [hg, h13]; rfl)
        have h1 := HN.out
        have h2 := HM.out
        rw [<- HF.out, e] at h1 h2
        exact ⟨h1, h2⟩)
       clear HF hg h13
       go_wp2
       go_roundw
       case rel => exact ⟨j, by go_num, by omega, hj, hid HN2.out.1, hw3.out⟩
       case measure => have := HN2.out.2; simp [intOf]; omega
      have z13 : ((l[j].toNat : Int) != 13) = true := byte_nei (d := 13) h13
      by_cases h10 : l[j] = 10
      ·have y10 : ((l[j].toNat : Int) != 10) = false := by rw [h10]; rfl
       have HN2 : Hid (gapF l j = gapF l i /\ k < j) := hid (by
        have e : eolF l j = j := eolF_hit hjl (by rw [hg, h10]; rfl)
        have h1 := HN.out
        have h2 := HM.out
        rw [<- HF.out, e] at h1 h2
        exact ⟨h1, h2⟩)
       clear HF hg h10
       go_wp2
       go_roundw
       case rel => exact ⟨j, by go_num, by omega, hj, hid HN2.out.1, hw3.out⟩
       case measure => have := HN2.out.2; simp [intOf]; omega
      have z10 : ((l[j].toNat : Int) != 10) = true := byte_nei (d := 10) h10
      have HF2 : Hid (eolF l (j + 1) = eolF l k) := hid (by rw [<- HF.out, eolF_go hjl (by rw [hg]; unfold eolC; simp [h10, h13])])
      clear HF hg h10 h13
      go_wp2
      go_roundw
      case rel => exact ⟨j + 1, by go_num, by omega, by omega, HF2, hw3.out⟩
      case measure => simp [intOf]; omega
     ·have d1 : decide ((j : Int) < (l.length : Int)) = false := decide_eq_false (by omega)
      have d2 : decide (j < l.length) = false := decide_eq_false hjl
      have HN2 : Hid (gapF l j = gapF l i /\ k < j) := hid (by
       have e : eolF l j = j := eolF_end (by omega)
       have h1 := HN.out
       have h2 := HM.out
       rw [<- HF.out, e] at h1 h2
       exact ⟨h1, h2⟩)
      clear HF
      go_wp2
      go_roundw
      case rel => exact ⟨j, by go_num, by omega, hj, hid HN2.out.1, hw3.out⟩
      case measure => have := HN2.out.2; simp [intOf]; omega
   ·have n35 : ((l[k].toNat : Int) == 35) = false := byte_ne (d := 35) h35
    have HR : Hid (gapF l i = k) := hid (by rw [<- HE.out, gapF_stop hlt (by rw [hg]; exact nb) (by rw [hg]; exact h35)])
    clear HE hg h35 nb h32 h9 h13 h10
    go_wp2
    go_ret
    exact ⟨by rw [HR.out]; rfl, hw2.out⟩
  ·have c1 : decide ((k : Int) < (l.length : Int)) = false := decide_eq_false (by omega)
   have c2 : decide (k < l.length) = false := decide_eq_false hlt
   have HR : Hid (gapF l i = k) := hid (by rw [<- HE.out, gapF_end (by omega)])
   clear HE
   go_wp2
   go_ret
   exact ⟨by rw [HR.out]; rfl, hw2.out⟩
set_option maxHeartbeats 1600000 in
theorem refDigs10_l (l : List UInt8) (i : Nat) (w : World) (hl : l.length <= 4611686018427387904) (_hi : i <= 4611686018427387904) : Calls Tryz.prog 158 #[.string (B l), .int .i64 (i : Int)] w fun e w' => e = .returned (.int .i64 (digE l i : Nat)) /\ w' = w := by
 go_enter Tryz.func158, Tryz.ntmps158
 go_wp2
 go_loopw [1] (fun z wr => ∃ k : Nat, z = .int .i64 (k : Int) /\ i <= k /\ (k <= l.length \/ k = i) /\ Hid (digE l k = digE l i) /\ wr = w) (fun z _ => l.length - (intOf z).toNat)
 case atStart => exact ⟨i, rfl, Nat.le_refl _, .inr rfl, hid rfl, rfl⟩
 case round =>
  obtain ⟨k, rfl, hik, hk, HE, hw⟩ := hrel
  have hw2 := hid hw
  clear hw
  have k0 : (0 : Int) <= (k : Int) := by omega
  by_cases hlt : k < l.length
  ·have c1 : decide ((k : Int) < (l.length : Int)) = true := decide_eq_true (by omega)
   have c2 : decide (k < l.length) = true := decide_eq_true hlt
   have c3 : (k : Int) < (l.length : Int) := by omega
   have hg : l.getD k 0 = l[k] := by simp [List.getD, hlt]
   have WA : IntKind.i64.wrap ((k : Int) + 1) = (k : Int) + 1 := IntWalk.i64_in _ (by omega)
   by_cases h1 : 48 <= l[k].toNat
   ·have d1 : decide ((48 : Int) <= (l[k].toNat : Int)) = true := decide_eq_true (by omega)
    by_cases h2 : l[k].toNat <= 57
    ·have d2 : decide ((l[k].toNat : Int) <= 57) = true := decide_eq_true (by omega)
     have HN : Hid (digE l (k + 1) = digE l i) := hid (by rw [<- HE.out, digE_go hlt (by rw [hg]; unfold digC; simp [h1, h2])])
     clear HE hg h1 h2
     go_wp2
     go_roundw
     case rel => exact ⟨k + 1, by go_num, by omega, .inl (by omega), HN, hw2.out⟩
     case measure => simp [intOf]; omega
    ·have d2 : decide ((l[k].toNat : Int) <= 57) = false := decide_eq_false (by omega)
     have HN : Hid (digE l i = k) := hid (by rw [<- HE.out, digE_stop hlt (by rw [hg]; unfold digC; simp [h1, h2])])
     clear HE hg h1 h2
     go_wp2
     go_ret
     exact ⟨by rw [HN.out]; rfl, hw2.out⟩
   ·have d1 : decide ((48 : Int) <= (l[k].toNat : Int)) = false := decide_eq_false (by omega)
    have HN : Hid (digE l i = k) := hid (by rw [<- HE.out, digE_stop hlt (by rw [hg]; unfold digC; simp [h1])])
    clear HE hg h1
    go_wp2
    go_ret
    exact ⟨by rw [HN.out]; rfl, hw2.out⟩
  ·have c1 : decide ((k : Int) < (l.length : Int)) = false := decide_eq_false (by omega)
   have c2 : decide (k < l.length) = false := decide_eq_false hlt
   have HN : Hid (digE l i = k) := hid (by rw [<- HE.out, digE_end (by omega)])
   clear HE
   go_wp2
   go_ret
   exact ⟨by rw [HN.out]; rfl, hw2.out⟩
set_option maxHeartbeats 1600000 in
theorem refPower_l (l : List UInt8) (i : Nat) (w : World) (hl : l.length <= 4611686018427387904) (hi : i <= 4611686018427387904) : Calls Tryz.prog 159 #[.string (B l), .int .i64 (i : Int)] w fun e w' => e = .returned (.int .i64 (powE l i : Nat)) /\ w' = w := by
 by_cases hlt : i < l.length
 case neg =>
  have c1 : decide ((l.length : Int) <= (i : Int)) = true := decide_eq_true (by omega)
  have c2 : decide (l.length <= i) = true := decide_eq_true (by omega)
  have HE : Hid (powE l i = i) := hid (powE_no (.inl (by omega)))
  clear hlt
  go_enter Tryz.func159, Tryz.ntmps159
  go_wp2
  go_ret
  exact ⟨by rw [HE.out]; rfl, rfl⟩
 have c1 : decide ((l.length : Int) <= (i : Int)) = false := decide_eq_false (by omega)
 have c2 : decide (l.length <= i) = false := decide_eq_false (by omega)
 have c3 : (i : Int) < (l.length : Int) := by omega
 have c4 : 0 <= (i : Int) := by omega
 have WA : IntKind.i64.wrap ((i : Int) + 1) = (i : Int) + 1 := IntWalk.i64_in _ (by omega)
 have WB : IntKind.i64.wrap ((i : Int) + 1 + 1) = (i : Int) + 1 + 1 := IntWalk.i64_in _ (by omega)
 have hg : l.getD i 0 = l[i] := by simp [List.getD, hlt]
 by_cases he : expC l[i] = true
 case neg =>
  have hn : l[i] ≠ 101 /\ l[i] ≠ 69 := by
   unfold expC at he
   simp only [Bool.or_eq_true, beq_iff_eq, not_or] at he
   exact he
  have e1 : ((l[i].toNat : Int) != 101) = true := byte_nei (d := 101) hn.1
  have e2 : ((l[i].toNat : Int) != 69) = true := byte_nei (d := 69) hn.2
  have HE : Hid (powE l i = i) := hid (powE_no (.inr (by rw [hg]; simpa using he)))
  clear hn he hg
  go_enter Tryz.func159, Tryz.ntmps159
  go_wp2
  go_ret
  exact ⟨by rw [HE.out]; rfl, rfl⟩
 have DG := hid (fun (k : Nat) (z : Int) (hz : z = (k : Int)) (hk : k <= 4611686018427387904) (u : World) => show Calls Tryz.prog 158 #[.string (B l), .int .i64 z] u fun e w' => e = .returned (.int .i64 (digE l k : Nat)) /\ w' = u by rw [hz]; exact refDigs10_l l k u hl hk)
 have hbd := fun k => digE_bound l l.length k (by omega)
 have key : ∀ n : Nat, expD l i = i + n -> Hid (powE l i = if digE l (i + n) = i + n then i else digE l (i + n)) := fun n hn => hid (by
  by_cases h : digE l (i + n) = i + n
  ·rw [powE_none (by rw [hn]; exact h), if_pos h]
  ·rw [powE_some hlt (by rw [hg]; exact he) (by rw [hn]; exact h), hn, if_neg h])
 have two : (((l[i].toNat : Int) != 101) = false) \/ (((l[i].toNat : Int) != 101) = true /\ ((l[i].toNat : Int) != 69) = false) := by
  unfold expC at he
  simp only [Bool.or_eq_true, beq_iff_eq] at he
  rcases he with h | h
  ·exact .inl (byte_eqi (d := 101) h)
  ·exact .inr ⟨byte_nei (d := 101) (by rw [h]; decide), byte_eqi (d := 69) h⟩
 by_cases hs : i + 1 < l.length
 case neg =>
  have d1 : decide ((i : Int) + 1 < (l.length : Int)) = false := decide_eq_false (by omega)
  have d2 : decide (i + 1 < l.length) = false := decide_eq_false hs
  have hD : expD l i = i + 1 := by unfold expD; rw [if_neg (fun h => hs h.1)]
  have K := key 1 hD
  have DD := hid (DG.out (i + 1) ((i : Int) + 1) (by omega) (by omega))
  have hb2 := (hbd (i + 1)).1
  clear key hD DG hbd hg he
  obtain ⟨d, hd⟩ : ∃ d, digE l (i + 1) = d := ⟨_, rfl⟩
  rw [hd] at DD K hb2
  clear hd
  by_cases hz : d = i + 1
  ·rw [if_pos hz] at K
   have z1 : ((d : Int) == (i : Int) + 1) = true := beq_iff_eq.2 (by omega)
   rcases two with e1 | ⟨e1, e2⟩
   all_goals
    go_enter Tryz.func159, Tryz.ntmps159
    go_wp2_with (go_at_call 158; (with_reducible refine (DD.out _).mono ?_); rintro e w1 ⟨rfl, rfl⟩)
    go_ret
    exact ⟨by rw [K.out]; rfl, rfl⟩
  ·rw [if_neg hz] at K
   have z1 : ((d : Int) == (i : Int) + 1) = false := beq_eq_false_iff_ne.2 (by omega)
   rcases two with e1 | ⟨e1, e2⟩
   all_goals
    go_enter Tryz.func159, Tryz.ntmps159
    go_wp2_with (go_at_call 158; (with_reducible refine (DD.out _).mono ?_); rintro e w1 ⟨rfl, rfl⟩)
    go_ret
    exact ⟨by rw [K.out]; rfl, rfl⟩
 have d1 : decide ((i : Int) + 1 < (l.length : Int)) = true := decide_eq_true (by omega)
 have d2 : decide (i + 1 < l.length) = true := decide_eq_true hs
 have d3 : (i : Int) + 1 < (l.length : Int) := by omega
 have d4 : 0 <= (i : Int) + 1 := by omega
 have hg1 : l.getD (i + 1) 0 = l[i + 1] := by simp [List.getD, hs]
 by_cases s43 : l[i + 1] = 43
 ·have f1 : ((l[i + 1].toNat : Int) == 43) = true := byte_eq (d := 43) s43
  have hD : expD l i = i + 2 := by unfold expD; rw [if_pos ⟨hs, by rw [hg1, s43]; rfl⟩]
  clear hg1 s43
  have K := key 2 hD
  have DD := hid (DG.out (i + 2) ((i : Int) + 1 + 1) (by omega) (by omega))
  have hb2 := (hbd (i + 2)).1
  clear key hD DG hbd hg he
  obtain ⟨d, hd⟩ : ∃ d, digE l (i + 2) = d := ⟨_, rfl⟩
  rw [hd] at DD K hb2
  clear hd
  by_cases hz : d = i + 2
  ·rw [if_pos hz] at K
   have z1 : ((d : Int) == (i : Int) + 1 + 1) = true := beq_iff_eq.2 (by omega)
   rcases two with e1 | ⟨e1, e2⟩
   all_goals
    go_enter Tryz.func159, Tryz.ntmps159
    go_wp2_with (go_at_call 158; (with_reducible refine (DD.out _).mono ?_); rintro e w1 ⟨rfl, rfl⟩)
    go_ret
    exact ⟨by rw [K.out]; rfl, rfl⟩
  ·rw [if_neg hz] at K
   have z1 : ((d : Int) == (i : Int) + 1 + 1) = false := beq_eq_false_iff_ne.2 (by omega)
   rcases two with e1 | ⟨e1, e2⟩
   all_goals
    go_enter Tryz.func159, Tryz.ntmps159
    go_wp2_with (go_at_call 158; (with_reducible refine (DD.out _).mono ?_); rintro e w1 ⟨rfl, rfl⟩)
    go_ret
    exact ⟨by rw [K.out]; rfl, rfl⟩
 have f1 : ((l[i + 1].toNat : Int) == 43) = false := byte_ne (d := 43) s43
 by_cases s45 : l[i + 1] = 45
 ·have f2 : ((l[i + 1].toNat : Int) == 45) = true := byte_eq (d := 45) s45
  have hD : expD l i = i + 2 := by unfold expD; rw [if_pos ⟨hs, by rw [hg1, s45]; rfl⟩]
  clear hg1 s43 s45
  have K := key 2 hD
  have DD := hid (DG.out (i + 2) ((i : Int) + 1 + 1) (by omega) (by omega))
  have hb2 := (hbd (i + 2)).1
  clear key hD DG hbd hg he
  obtain ⟨d, hd⟩ : ∃ d, digE l (i + 2) = d := ⟨_, rfl⟩
  rw [hd] at DD K hb2
  clear hd
  by_cases hz : d = i + 2
  ·rw [if_pos hz] at K
   have z1 : ((d : Int) == (i : Int) + 1 + 1) = true := beq_iff_eq.2 (by omega)
   rcases two with e1 | ⟨e1, e2⟩
   all_goals
    go_enter Tryz.func159, Tryz.ntmps159
    go_wp2_with (go_at_call 158; (with_reducible refine (DD.out _).mono ?_); rintro e w1 ⟨rfl, rfl⟩)
    go_ret
    exact ⟨by rw [K.out]; rfl, rfl⟩
  ·rw [if_neg hz] at K
   have z1 : ((d : Int) == (i : Int) + 1 + 1) = false := beq_eq_false_iff_ne.2 (by omega)
   rcases two with e1 | ⟨e1, e2⟩
   all_goals
    go_enter Tryz.func159, Tryz.ntmps159
    go_wp2_with (go_at_call 158; (with_reducible refine (DD.out _).mono ?_); rintro e w1 ⟨rfl, rfl⟩)
    go_ret
    exact ⟨by rw [K.out]; rfl, rfl⟩
 have f2 : ((l[i + 1].toNat : Int) == 45) = false := byte_ne (d := 45) s45
 have hD : expD l i = i + 1 := by unfold expD; rw [if_neg (fun h => by have := h.2; rw [hg1] at this; unfold signC at this; simp [s43, s45] at this)]
 clear hg1 s43 s45
 have K := key 1 hD
 have DD := hid (DG.out (i + 1) ((i : Int) + 1) (by omega) (by omega))
 have hb2 := (hbd (i + 1)).1
 clear key hD DG hbd hg he
 obtain ⟨d, hd⟩ : ∃ d, digE l (i + 1) = d := ⟨_, rfl⟩
 rw [hd] at DD K hb2
 clear hd
 by_cases hz : d = i + 1
 ·rw [if_pos hz] at K
  have z1 : ((d : Int) == (i : Int) + 1) = true := beq_iff_eq.2 (by omega)
  rcases two with e1 | ⟨e1, e2⟩
  all_goals
   go_enter Tryz.func159, Tryz.ntmps159
   go_wp2_with (go_at_call 158; (with_reducible refine (DD.out _).mono ?_); rintro e w1 ⟨rfl, rfl⟩)
   go_ret
   exact ⟨by rw [K.out]; rfl, rfl⟩
 ·rw [if_neg hz] at K
  have z1 : ((d : Int) == (i : Int) + 1) = false := beq_eq_false_iff_ne.2 (by omega)
  rcases two with e1 | ⟨e1, e2⟩
  all_goals
   go_enter Tryz.func159, Tryz.ntmps159
   go_wp2_with (go_at_call 158; (with_reducible refine (DD.out _).mono ?_); rintro e w1 ⟨rfl, rfl⟩)
   go_ret
   exact ⟨by rw [K.out]; rfl, rfl⟩
end Go.Proofs.YtdhmpakhdhdebaaGreatDoor
namespace Go.Proofs.YtdhmpakhdhdebaaGreatDoor
open Go.Lib (hid)
open Go.RowKit
set_option maxRecDepth 100000
theorem declt (x y : Nat) : decide ((x : Int) < (y : Int)) = decide (x < y) := by simp
theorem declt1 (x y : Nat) : decide ((x : Int) + 1 < (y : Int)) = decide (x + 1 < y) := by
 rw [Bool.eq_iff_iff]; simp; omega
def numK (dot : Bool) (i f a b pa pb : Nat) : Nat × List UInt8 :=
 if dot = true /\ (f < a \/ a + 1 < b) /\ b < pb then (pb, doubleN)
 else if f < a /\ a < pa then (pa, doubleN)
 else if dot = true /\ a + 1 < b then (b, decimalN)
 else if f < a then (a, integerN)
 else (i, [])
theorem numG_k (l : List UInt8) (i : Nat) : numG l i = numK (decide (digE l (numD l i) < l.length) && l.getD (digE l (numD l i)) 0 == 46) i (numD l i) (digE l (numD l i)) (digE l (digE l (numD l i) + 1)) (powE l (digE l (numD l i))) (powE l (digE l (digE l (numD l i) + 1))) := rfl
set_option maxHeartbeats 12800000 in
theorem refNum_43 (l : List UInt8) (i : Nat) (w : World) (hi : i < l.length) (hl : l.length <= 16777216) (s43 : l.getD i 0 = 43) :
  Calls Tryz.prog 110 #[.string (B l), .int .i64 (i : Int)] w fun e w' => e = .returned (.tuple #[.int .i64 ((numG l i).1 : Nat), .string (B (numG l i).2)]) /\ w' = w := by
 have c1 : decide ((i : Int) < (l.length : Int)) = true := decide_eq_true (by omega)
 have c2 : decide (i < l.length) = true := decide_eq_true hi
 have c3 : (i : Int) < (l.length : Int) := by omega
 have c4 : 0 <= (i : Int) := by omega
 have hg : l.getD i 0 = l[i] := by simp [List.getD, hi]
 have HG := hid (numG_k l i)
 have y1 : ((l[i].toNat : Int) == 43) = true := byte_eq (d := 43) (by rw [<- hg]; exact s43)
 have hD : numD l i = i + 1 := by unfold numD; rw [if_pos ⟨hi, by rw [s43]; rfl⟩]
 rw [hD] at HG
 have D1 := hid (fun (u : World) => show Calls Tryz.prog 158 #[.string (B l), .int .i64 ((i : Int) + 1)] u fun e w' => e = .returned (.int .i64 (digE l (i + 1) : Nat)) /\ w' = u by have h := refDigs10_l l (i + 1) u (by omega) (by omega); rw [show ((i + 1 : Nat) : Int) = (i : Int) + 1 by omega] at h; exact h)
 have ha := digE_bound l l.length (i + 1) (by omega)
 obtain ⟨a, hA⟩ : ∃ a, digE l (i + 1) = a := ⟨_, rfl⟩
 rw [hA] at D1 HG ha
 have D2 := hid (fun (u : World) => show Calls Tryz.prog 158 #[.string (B l), .int .i64 ((a : Int) + 1)] u fun e w' => e = .returned (.int .i64 (digE l (a + 1) : Nat)) /\ w' = u by have h := refDigs10_l l (a + 1) u (by omega) (by omega); rw [show ((a + 1 : Nat) : Int) = (a : Int) + 1 by omega] at h; exact h)
 have P1 := hid (fun (u : World) => refPower_l l a u (by omega) (by omega))
 have hb := digE_bound l l.length (a + 1) (by omega)
 obtain ⟨b, hB⟩ : ∃ b, digE l (a + 1) = b := ⟨_, rfl⟩
 rw [hB] at D2 HG hb
 have P2 := hid (fun (u : World) => refPower_l l b u (by omega) (by omega))
 obtain ⟨pa, hpa⟩ : ∃ p, powE l a = p := ⟨_, rfl⟩
 rw [hpa] at P1 HG
 obtain ⟨pb, hpb⟩ : ∃ p, powE l b = p := ⟨_, rfl⟩
 rw [hpb] at P2 HG
 have W1 : IntKind.i64.wrap ((i : Int) + 1) = (i : Int) + 1 := IntWalk.i64_in _ (by omega)
 have W2 : IntKind.i64.wrap ((a : Int) + 1) = (a : Int) + 1 := IntWalk.i64_in _ (by omega)
 have hfa : i + 1 <= a := ha.1
 have hal : a <= l.length := by omega
 have a0 : 0 <= (a : Int) := by omega
 have dots : (∃ hh : a < l.length, l[a] = 46) \/ (∃ hh : a < l.length, l[a] ≠ 46) \/ a = l.length := by
  by_cases hh : a < l.length
  ·by_cases h46 : l[a] = 46
   ·exact .inl ⟨hh, h46⟩
   ·exact .inr (.inl ⟨hh, h46⟩)
  ·exact .inr (.inr (by omega))
 clear hA hB hpa hpb ha hb hD hg s43
 rcases dots with ⟨hh, h46⟩ | ⟨hh, h46⟩ | hh
 ·have e1 : decide ((a : Int) < (l.length : Int)) = true := decide_eq_true (by omega)
  have e2 : decide (a < l.length) = true := decide_eq_true hh
  have e3 : (a : Int) < (l.length : Int) := by omega
  have e4 : ((l[a].toNat : Int) == 46) = true := byte_eq (d := 46) h46
  have HG2 : Hid (numG l i = numK true i (i + 1) a b pa pb) := hid (by rw [HG.out, show (decide (a < l.length) && l.getD a 0 == 46) = true by rw [show l.getD a 0 = l[a] by simp [List.getD, hh]]; simp [hh, h46]])
  clear HG
  by_cases h1 : i + 1 < a <;> by_cases h2 : a < pa <;> by_cases h3 : a + 1 < b <;> by_cases h4 : b < pb
  all_goals
   have q1 := declt1 i a
   first | rw [decide_eq_true h1] at q1 | rw [decide_eq_false h1] at q1
   first | have t1 := decide_eq_true h1 | have t1 := decide_eq_false h1
   have q2 := declt a pa
   first | rw [decide_eq_true h2] at q2 | rw [decide_eq_false h2] at q2
   first | have t2 := decide_eq_true h2 | have t2 := decide_eq_false h2
   have q3 := declt1 a b
   first | rw [decide_eq_true h3] at q3 | rw [decide_eq_false h3] at q3
   first | have t3 := decide_eq_true h3 | have t3 := decide_eq_false h3
   have q4 := declt b pb
   first | rw [decide_eq_true h4] at q4 | rw [decide_eq_false h4] at q4
   first | have t4 := decide_eq_true h4 | have t4 := decide_eq_false h4
   have HR : Hid (numG l i = _) := HG2
   unfold numK at HR
   simp only [h1, h2, h3, h4, and_true, and_false, or_true, or_false, if_true, if_false] at HR
   clear HG2
   go_enter Tryz.func110, Tryz.ntmps110
   go_wp2_with (first | (go_at_call 158; (with_reducible refine (D1.out _).mono ?_); rintro e w1 ⟨rfl, rfl⟩) | (go_at_call 158; (with_reducible refine (D2.out _).mono ?_); rintro e w1 ⟨rfl, rfl⟩) | (go_at_call 159; (with_reducible refine (P1.out _).mono ?_); rintro e w1 ⟨rfl, rfl⟩) | (go_at_call 159; (with_reducible refine (P2.out _).mono ?_); rintro e w1 ⟨rfl, rfl⟩))
   go_ret2
   exact ⟨by rw [HR.out]; rfl, rfl⟩
 ·have e1 : decide ((a : Int) < (l.length : Int)) = true := decide_eq_true (by omega)
  have e2 : decide (a < l.length) = true := decide_eq_true hh
  have e3 : (a : Int) < (l.length : Int) := by omega
  have e4 : ((l[a].toNat : Int) == 46) = false := byte_ne (d := 46) h46
  have HG2 : Hid (numG l i = numK false i (i + 1) a b pa pb) := hid (by rw [HG.out, show (decide (a < l.length) && l.getD a 0 == 46) = false by rw [show l.getD a 0 = l[a] by simp [List.getD, hh]]; simp [hh, h46]])
  clear HG
  by_cases h1 : i + 1 < a <;> by_cases h2 : a < pa
  all_goals
   have q1 := declt1 i a
   first | rw [decide_eq_true h1] at q1 | rw [decide_eq_false h1] at q1
   first | have t1 := decide_eq_true h1 | have t1 := decide_eq_false h1
   have q2 := declt a pa
   first | rw [decide_eq_true h2] at q2 | rw [decide_eq_false h2] at q2
   first | have t2 := decide_eq_true h2 | have t2 := decide_eq_false h2
   have HR : Hid (numG l i = _) := HG2
   unfold numK at HR
   simp only [h1, h2, Bool.false_eq_true, and_true, true_and, and_false, false_and, true_or, false_or, if_true, if_false] at HR
   clear HG2
   go_enter Tryz.func110, Tryz.ntmps110
   go_wp2_with (first | (go_at_call 158; (with_reducible refine (D1.out _).mono ?_); rintro e w1 ⟨rfl, rfl⟩) | (go_at_call 158; (with_reducible refine (D2.out _).mono ?_); rintro e w1 ⟨rfl, rfl⟩) | (go_at_call 159; (with_reducible refine (P1.out _).mono ?_); rintro e w1 ⟨rfl, rfl⟩) | (go_at_call 159; (with_reducible refine (P2.out _).mono ?_); rintro e w1 ⟨rfl, rfl⟩))
   go_ret2
   exact ⟨by rw [HR.out]; rfl, rfl⟩
 ·have e1 : decide ((a : Int) < (l.length : Int)) = false := decide_eq_false (by omega)
  have e2 : decide (a < l.length) = false := decide_eq_false (by omega)
  have HG2 : Hid (numG l i = numK false i (i + 1) a b pa pb) := hid (by rw [HG.out, show (decide (a < l.length) && l.getD a 0 == 46) = false by rw [e2]; rfl])
  clear hh
  clear HG
  by_cases h1 : i + 1 < a <;> by_cases h2 : a < pa
  all_goals
   have q1 := declt1 i a
   first | rw [decide_eq_true h1] at q1 | rw [decide_eq_false h1] at q1
   first | have t1 := decide_eq_true h1 | have t1 := decide_eq_false h1
   have q2 := declt a pa
   first | rw [decide_eq_true h2] at q2 | rw [decide_eq_false h2] at q2
   first | have t2 := decide_eq_true h2 | have t2 := decide_eq_false h2
   have HR : Hid (numG l i = _) := HG2
   unfold numK at HR
   simp only [h1, h2, Bool.false_eq_true, and_true, true_and, and_false, false_and, true_or, false_or, if_true, if_false] at HR
   clear HG2
   go_enter Tryz.func110, Tryz.ntmps110
   go_wp2_with (first | (go_at_call 158; (with_reducible refine (D1.out _).mono ?_); rintro e w1 ⟨rfl, rfl⟩) | (go_at_call 158; (with_reducible refine (D2.out _).mono ?_); rintro e w1 ⟨rfl, rfl⟩) | (go_at_call 159; (with_reducible refine (P1.out _).mono ?_); rintro e w1 ⟨rfl, rfl⟩) | (go_at_call 159; (with_reducible refine (P2.out _).mono ?_); rintro e w1 ⟨rfl, rfl⟩))
   go_ret2
   exact ⟨by rw [HR.out]; rfl, rfl⟩
set_option maxHeartbeats 12800000 in
theorem refNum_45 (l : List UInt8) (i : Nat) (w : World) (hi : i < l.length) (hl : l.length <= 16777216) (s45 : l.getD i 0 = 45) :
  Calls Tryz.prog 110 #[.string (B l), .int .i64 (i : Int)] w fun e w' => e = .returned (.tuple #[.int .i64 ((numG l i).1 : Nat), .string (B (numG l i).2)]) /\ w' = w := by
 have c1 : decide ((i : Int) < (l.length : Int)) = true := decide_eq_true (by omega)
 have c2 : decide (i < l.length) = true := decide_eq_true hi
 have c3 : (i : Int) < (l.length : Int) := by omega
 have c4 : 0 <= (i : Int) := by omega
 have hg : l.getD i 0 = l[i] := by simp [List.getD, hi]
 have HG := hid (numG_k l i)
 have y1 : ((l[i].toNat : Int) == 43) = false := byte_ne (d := 43) (by rw [<- hg, s45]; decide)
 have y2 : ((l[i].toNat : Int) == 45) = true := byte_eq (d := 45) (by rw [<- hg]; exact s45)
 have hD : numD l i = i + 1 := by unfold numD; rw [if_pos ⟨hi, by rw [s45]; rfl⟩]
 rw [hD] at HG
 have D1 := hid (fun (u : World) => show Calls Tryz.prog 158 #[.string (B l), .int .i64 ((i : Int) + 1)] u fun e w' => e = .returned (.int .i64 (digE l (i + 1) : Nat)) /\ w' = u by have h := refDigs10_l l (i + 1) u (by omega) (by omega); rw [show ((i + 1 : Nat) : Int) = (i : Int) + 1 by omega] at h; exact h)
 have ha := digE_bound l l.length (i + 1) (by omega)
 obtain ⟨a, hA⟩ : ∃ a, digE l (i + 1) = a := ⟨_, rfl⟩
 rw [hA] at D1 HG ha
 have D2 := hid (fun (u : World) => show Calls Tryz.prog 158 #[.string (B l), .int .i64 ((a : Int) + 1)] u fun e w' => e = .returned (.int .i64 (digE l (a + 1) : Nat)) /\ w' = u by have h := refDigs10_l l (a + 1) u (by omega) (by omega); rw [show ((a + 1 : Nat) : Int) = (a : Int) + 1 by omega] at h; exact h)
 have P1 := hid (fun (u : World) => refPower_l l a u (by omega) (by omega))
 have hb := digE_bound l l.length (a + 1) (by omega)
 obtain ⟨b, hB⟩ : ∃ b, digE l (a + 1) = b := ⟨_, rfl⟩
 rw [hB] at D2 HG hb
 have P2 := hid (fun (u : World) => refPower_l l b u (by omega) (by omega))
 obtain ⟨pa, hpa⟩ : ∃ p, powE l a = p := ⟨_, rfl⟩
 rw [hpa] at P1 HG
 obtain ⟨pb, hpb⟩ : ∃ p, powE l b = p := ⟨_, rfl⟩
 rw [hpb] at P2 HG
 have W1 : IntKind.i64.wrap ((i : Int) + 1) = (i : Int) + 1 := IntWalk.i64_in _ (by omega)
 have W2 : IntKind.i64.wrap ((a : Int) + 1) = (a : Int) + 1 := IntWalk.i64_in _ (by omega)
 have hfa : i + 1 <= a := ha.1
 have hal : a <= l.length := by omega
 have a0 : 0 <= (a : Int) := by omega
 have dots : (∃ hh : a < l.length, l[a] = 46) \/ (∃ hh : a < l.length, l[a] ≠ 46) \/ a = l.length := by
  by_cases hh : a < l.length
  ·by_cases h46 : l[a] = 46
   ·exact .inl ⟨hh, h46⟩
   ·exact .inr (.inl ⟨hh, h46⟩)
  ·exact .inr (.inr (by omega))
 clear hA hB hpa hpb ha hb hD hg s45
 rcases dots with ⟨hh, h46⟩ | ⟨hh, h46⟩ | hh
 ·have e1 : decide ((a : Int) < (l.length : Int)) = true := decide_eq_true (by omega)
  have e2 : decide (a < l.length) = true := decide_eq_true hh
  have e3 : (a : Int) < (l.length : Int) := by omega
  have e4 : ((l[a].toNat : Int) == 46) = true := byte_eq (d := 46) h46
  have HG2 : Hid (numG l i = numK true i (i + 1) a b pa pb) := hid (by rw [HG.out, show (decide (a < l.length) && l.getD a 0 == 46) = true by rw [show l.getD a 0 = l[a] by simp [List.getD, hh]]; simp [hh, h46]])
  clear HG
  by_cases h1 : i + 1 < a <;> by_cases h2 : a < pa <;> by_cases h3 : a + 1 < b <;> by_cases h4 : b < pb
  all_goals
   have q1 := declt1 i a
   first | rw [decide_eq_true h1] at q1 | rw [decide_eq_false h1] at q1
   first | have t1 := decide_eq_true h1 | have t1 := decide_eq_false h1
   have q2 := declt a pa
   first | rw [decide_eq_true h2] at q2 | rw [decide_eq_false h2] at q2
   first | have t2 := decide_eq_true h2 | have t2 := decide_eq_false h2
   have q3 := declt1 a b
   first | rw [decide_eq_true h3] at q3 | rw [decide_eq_false h3] at q3
   first | have t3 := decide_eq_true h3 | have t3 := decide_eq_false h3
   have q4 := declt b pb
   first | rw [decide_eq_true h4] at q4 | rw [decide_eq_false h4] at q4
   first | have t4 := decide_eq_true h4 | have t4 := decide_eq_false h4
   have HR : Hid (numG l i = _) := HG2
   unfold numK at HR
   simp only [h1, h2, h3, h4, and_true, and_false, or_true, or_false, if_true, if_false] at HR
   clear HG2
   go_enter Tryz.func110, Tryz.ntmps110
   go_wp2_with (first | (go_at_call 158; (with_reducible refine (D1.out _).mono ?_); rintro e w1 ⟨rfl, rfl⟩) | (go_at_call 158; (with_reducible refine (D2.out _).mono ?_); rintro e w1 ⟨rfl, rfl⟩) | (go_at_call 159; (with_reducible refine (P1.out _).mono ?_); rintro e w1 ⟨rfl, rfl⟩) | (go_at_call 159; (with_reducible refine (P2.out _).mono ?_); rintro e w1 ⟨rfl, rfl⟩))
   go_ret2
   exact ⟨by rw [HR.out]; rfl, rfl⟩
 ·have e1 : decide ((a : Int) < (l.length : Int)) = true := decide_eq_true (by omega)
  have e2 : decide (a < l.length) = true := decide_eq_true hh
  have e3 : (a : Int) < (l.length : Int) := by omega
  have e4 : ((l[a].toNat : Int) == 46) = false := byte_ne (d := 46) h46
  have HG2 : Hid (numG l i = numK false i (i + 1) a b pa pb) := hid (by rw [HG.out, show (decide (a < l.length) && l.getD a 0 == 46) = false by rw [show l.getD a 0 = l[a] by simp [List.getD, hh]]; simp [hh, h46]])
  clear HG
  by_cases h1 : i + 1 < a <;> by_cases h2 : a < pa
  all_goals
   have q1 := declt1 i a
   first | rw [decide_eq_true h1] at q1 | rw [decide_eq_false h1] at q1
   first | have t1 := decide_eq_true h1 | have t1 := decide_eq_false h1
   have q2 := declt a pa
   first | rw [decide_eq_true h2] at q2 | rw [decide_eq_false h2] at q2
   first | have t2 := decide_eq_true h2 | have t2 := decide_eq_false h2
   have HR : Hid (numG l i = _) := HG2
   unfold numK at HR
   simp only [h1, h2, Bool.false_eq_true, and_true, true_and, and_false, false_and, true_or, false_or, if_true, if_false] at HR
   clear HG2
   go_enter Tryz.func110, Tryz.ntmps110
   go_wp2_with (first | (go_at_call 158; (with_reducible refine (D1.out _).mono ?_); rintro e w1 ⟨rfl, rfl⟩) | (go_at_call 158; (with_reducible refine (D2.out _).mono ?_); rintro e w1 ⟨rfl, rfl⟩) | (go_at_call 159; (with_reducible refine (P1.out _).mono ?_); rintro e w1 ⟨rfl, rfl⟩) | (go_at_call 159; (with_reducible refine (P2.out _).mono ?_); rintro e w1 ⟨rfl, rfl⟩))
   go_ret2
   exact ⟨by rw [HR.out]; rfl, rfl⟩
 ·have e1 : decide ((a : Int) < (l.length : Int)) = false := decide_eq_false (by omega)
  have e2 : decide (a < l.length) = false := decide_eq_false (by omega)
  have HG2 : Hid (numG l i = numK false i (i + 1) a b pa pb) := hid (by rw [HG.out, show (decide (a < l.length) && l.getD a 0 == 46) = false by rw [e2]; rfl])
  clear hh
  clear HG
  by_cases h1 : i + 1 < a <;> by_cases h2 : a < pa
  all_goals
   have q1 := declt1 i a
   first | rw [decide_eq_true h1] at q1 | rw [decide_eq_false h1] at q1
   first | have t1 := decide_eq_true h1 | have t1 := decide_eq_false h1
   have q2 := declt a pa
   first | rw [decide_eq_true h2] at q2 | rw [decide_eq_false h2] at q2
   first | have t2 := decide_eq_true h2 | have t2 := decide_eq_false h2
   have HR : Hid (numG l i = _) := HG2
   unfold numK at HR
   simp only [h1, h2, Bool.false_eq_true, and_true, true_and, and_false, false_and, true_or, false_or, if_true, if_false] at HR
   clear HG2
   go_enter Tryz.func110, Tryz.ntmps110
   go_wp2_with (first | (go_at_call 158; (with_reducible refine (D1.out _).mono ?_); rintro e w1 ⟨rfl, rfl⟩) | (go_at_call 158; (with_reducible refine (D2.out _).mono ?_); rintro e w1 ⟨rfl, rfl⟩) | (go_at_call 159; (with_reducible refine (P1.out _).mono ?_); rintro e w1 ⟨rfl, rfl⟩) | (go_at_call 159; (with_reducible refine (P2.out _).mono ?_); rintro e w1 ⟨rfl, rfl⟩))
   go_ret2
   exact ⟨by rw [HR.out]; rfl, rfl⟩
set_option maxHeartbeats 12800000 in
theorem refNum_0 (l : List UInt8) (i : Nat) (w : World) (hi : i < l.length) (hl : l.length <= 16777216) (s43 : l.getD i 0 ≠ 43) (s45 : l.getD i 0 ≠ 45) :
  Calls Tryz.prog 110 #[.string (B l), .int .i64 (i : Int)] w fun e w' => e = .returned (.tuple #[.int .i64 ((numG l i).1 : Nat), .string (B (numG l i).2)]) /\ w' = w := by
 have c1 : decide ((i : Int) < (l.length : Int)) = true := decide_eq_true (by omega)
 have c2 : decide (i < l.length) = true := decide_eq_true hi
 have c3 : (i : Int) < (l.length : Int) := by omega
 have c4 : 0 <= (i : Int) := by omega
 have hg : l.getD i 0 = l[i] := by simp [List.getD, hi]
 have HG := hid (numG_k l i)
 have y1 : ((l[i].toNat : Int) == 43) = false := byte_ne (d := 43) (by rw [<- hg]; exact s43)
 have y2 : ((l[i].toNat : Int) == 45) = false := byte_ne (d := 45) (by rw [<- hg]; exact s45)
 have hD : numD l i = i := by unfold numD; rw [if_neg (fun h => by have := h.2; unfold signC at this; simp only [Bool.or_eq_true, beq_iff_eq] at this; rcases this with h | h; exact s43 h; exact s45 h)]
 rw [hD] at HG
 have D1 := hid (fun (u : World) => show Calls Tryz.prog 158 #[.string (B l), .int .i64 ((i : Int))] u fun e w' => e = .returned (.int .i64 (digE l (i) : Nat)) /\ w' = u by have h := refDigs10_l l (i) u (by omega) (by omega); rw [show ((i : Nat) : Int) = (i : Int) by omega] at h; exact h)
 have ha := digE_bound l l.length (i) (by omega)
 obtain ⟨a, hA⟩ : ∃ a, digE l (i) = a := ⟨_, rfl⟩
 rw [hA] at D1 HG ha
 have D2 := hid (fun (u : World) => show Calls Tryz.prog 158 #[.string (B l), .int .i64 ((a : Int) + 1)] u fun e w' => e = .returned (.int .i64 (digE l (a + 1) : Nat)) /\ w' = u by have h := refDigs10_l l (a + 1) u (by omega) (by omega); rw [show ((a + 1 : Nat) : Int) = (a : Int) + 1 by omega] at h; exact h)
 have P1 := hid (fun (u : World) => refPower_l l a u (by omega) (by omega))
 have hb := digE_bound l l.length (a + 1) (by omega)
 obtain ⟨b, hB⟩ : ∃ b, digE l (a + 1) = b := ⟨_, rfl⟩
 rw [hB] at D2 HG hb
 have P2 := hid (fun (u : World) => refPower_l l b u (by omega) (by omega))
 obtain ⟨pa, hpa⟩ : ∃ p, powE l a = p := ⟨_, rfl⟩
 rw [hpa] at P1 HG
 obtain ⟨pb, hpb⟩ : ∃ p, powE l b = p := ⟨_, rfl⟩
 rw [hpb] at P2 HG
 have W1 : IntKind.i64.wrap ((i : Int) + 1) = (i : Int) + 1 := IntWalk.i64_in _ (by omega)
 have W2 : IntKind.i64.wrap ((a : Int) + 1) = (a : Int) + 1 := IntWalk.i64_in _ (by omega)
 have hfa : i <= a := ha.1
 have hal : a <= l.length := by omega
 have a0 : 0 <= (a : Int) := by omega
 have dots : (∃ hh : a < l.length, l[a] = 46) \/ (∃ hh : a < l.length, l[a] ≠ 46) \/ a = l.length := by
  by_cases hh : a < l.length
  ·by_cases h46 : l[a] = 46
   ·exact .inl ⟨hh, h46⟩
   ·exact .inr (.inl ⟨hh, h46⟩)
  ·exact .inr (.inr (by omega))
 clear hA hB hpa hpb ha hb hD hg s43 s45
 rcases dots with ⟨hh, h46⟩ | ⟨hh, h46⟩ | hh
 ·have e1 : decide ((a : Int) < (l.length : Int)) = true := decide_eq_true (by omega)
  have e2 : decide (a < l.length) = true := decide_eq_true hh
  have e3 : (a : Int) < (l.length : Int) := by omega
  have e4 : ((l[a].toNat : Int) == 46) = true := byte_eq (d := 46) h46
  have HG2 : Hid (numG l i = numK true i (i) a b pa pb) := hid (by rw [HG.out, show (decide (a < l.length) && l.getD a 0 == 46) = true by rw [show l.getD a 0 = l[a] by simp [List.getD, hh]]; simp [hh, h46]])
  clear HG
  by_cases h1 : i < a <;> by_cases h2 : a < pa <;> by_cases h3 : a + 1 < b <;> by_cases h4 : b < pb
  all_goals
   have q1 := declt i a
   first | rw [decide_eq_true h1] at q1 | rw [decide_eq_false h1] at q1
   first | have t1 := decide_eq_true h1 | have t1 := decide_eq_false h1
   have q2 := declt a pa
   first | rw [decide_eq_true h2] at q2 | rw [decide_eq_false h2] at q2
   first | have t2 := decide_eq_true h2 | have t2 := decide_eq_false h2
   have q3 := declt1 a b
   first | rw [decide_eq_true h3] at q3 | rw [decide_eq_false h3] at q3
   first | have t3 := decide_eq_true h3 | have t3 := decide_eq_false h3
   have q4 := declt b pb
   first | rw [decide_eq_true h4] at q4 | rw [decide_eq_false h4] at q4
   first | have t4 := decide_eq_true h4 | have t4 := decide_eq_false h4
   have HR : Hid (numG l i = _) := HG2
   unfold numK at HR
   simp only [h1, h2, h3, h4, and_true, and_false, or_true, or_false, if_true, if_false] at HR
   clear HG2
   go_enter Tryz.func110, Tryz.ntmps110
   go_wp2_with (first | (go_at_call 158; (with_reducible refine (D1.out _).mono ?_); rintro e w1 ⟨rfl, rfl⟩) | (go_at_call 158; (with_reducible refine (D2.out _).mono ?_); rintro e w1 ⟨rfl, rfl⟩) | (go_at_call 159; (with_reducible refine (P1.out _).mono ?_); rintro e w1 ⟨rfl, rfl⟩) | (go_at_call 159; (with_reducible refine (P2.out _).mono ?_); rintro e w1 ⟨rfl, rfl⟩))
   go_ret2
   exact ⟨by rw [HR.out]; rfl, rfl⟩
 ·have e1 : decide ((a : Int) < (l.length : Int)) = true := decide_eq_true (by omega)
  have e2 : decide (a < l.length) = true := decide_eq_true hh
  have e3 : (a : Int) < (l.length : Int) := by omega
  have e4 : ((l[a].toNat : Int) == 46) = false := byte_ne (d := 46) h46
  have HG2 : Hid (numG l i = numK false i (i) a b pa pb) := hid (by rw [HG.out, show (decide (a < l.length) && l.getD a 0 == 46) = false by rw [show l.getD a 0 = l[a] by simp [List.getD, hh]]; simp [hh, h46]])
  clear HG
  by_cases h1 : i < a <;> by_cases h2 : a < pa
  all_goals
   have q1 := declt i a
   first | rw [decide_eq_true h1] at q1 | rw [decide_eq_false h1] at q1
   first | have t1 := decide_eq_true h1 | have t1 := decide_eq_false h1
   have q2 := declt a pa
   first | rw [decide_eq_true h2] at q2 | rw [decide_eq_false h2] at q2
   first | have t2 := decide_eq_true h2 | have t2 := decide_eq_false h2
   have HR : Hid (numG l i = _) := HG2
   unfold numK at HR
   simp only [h1, h2, Bool.false_eq_true, and_true, true_and, and_false, false_and, true_or, false_or, if_true, if_false] at HR
   clear HG2
   go_enter Tryz.func110, Tryz.ntmps110
   go_wp2_with (first | (go_at_call 158; (with_reducible refine (D1.out _).mono ?_); rintro e w1 ⟨rfl, rfl⟩) | (go_at_call 158; (with_reducible refine (D2.out _).mono ?_); rintro e w1 ⟨rfl, rfl⟩) | (go_at_call 159; (with_reducible refine (P1.out _).mono ?_); rintro e w1 ⟨rfl, rfl⟩) | (go_at_call 159; (with_reducible refine (P2.out _).mono ?_); rintro e w1 ⟨rfl, rfl⟩))
   go_ret2
   exact ⟨by rw [HR.out]; rfl, rfl⟩
 ·have e1 : decide ((a : Int) < (l.length : Int)) = false := decide_eq_false (by omega)
  have e2 : decide (a < l.length) = false := decide_eq_false (by omega)
  have HG2 : Hid (numG l i = numK false i (i) a b pa pb) := hid (by rw [HG.out, show (decide (a < l.length) && l.getD a 0 == 46) = false by rw [e2]; rfl])
  clear hh
  clear HG
  by_cases h1 : i < a <;> by_cases h2 : a < pa
  all_goals
   have q1 := declt i a
   first | rw [decide_eq_true h1] at q1 | rw [decide_eq_false h1] at q1
   first | have t1 := decide_eq_true h1 | have t1 := decide_eq_false h1
   have q2 := declt a pa
   first | rw [decide_eq_true h2] at q2 | rw [decide_eq_false h2] at q2
   first | have t2 := decide_eq_true h2 | have t2 := decide_eq_false h2
   have HR : Hid (numG l i = _) := HG2
   unfold numK at HR
   simp only [h1, h2, Bool.false_eq_true, and_true, true_and, and_false, false_and, true_or, false_or, if_true, if_false] at HR
   clear HG2
   go_enter Tryz.func110, Tryz.ntmps110
   go_wp2_with (first | (go_at_call 158; (with_reducible refine (D1.out _).mono ?_); rintro e w1 ⟨rfl, rfl⟩) | (go_at_call 158; (with_reducible refine (D2.out _).mono ?_); rintro e w1 ⟨rfl, rfl⟩) | (go_at_call 159; (with_reducible refine (P1.out _).mono ?_); rintro e w1 ⟨rfl, rfl⟩) | (go_at_call 159; (with_reducible refine (P2.out _).mono ?_); rintro e w1 ⟨rfl, rfl⟩))
   go_ret2
   exact ⟨by rw [HR.out]; rfl, rfl⟩
theorem refNum10_l (l : List UInt8) (i : Nat) (w : World) (hi : i < l.length) (hl : l.length <= 16777216) :
  Calls Tryz.prog 110 #[.string (B l), .int .i64 (i : Int)] w fun e w' => e = .returned (.tuple #[.int .i64 ((numG l i).1 : Nat), .string (B (numG l i).2)]) /\ w' = w := by
 by_cases h1 : l.getD i 0 = 43
 ·exact refNum_43 l i w hi hl h1
 by_cases h2 : l.getD i 0 = 45
 ·exact refNum_45 l i w hi hl h2
 ·exact refNum_0 l i w hi hl h1 h2
end Go.Proofs.YtdhmpakhdhdebaaGreatDoor
namespace Go.Proofs.YtdhmpakhdhdebaaGreatDoor
open Go.Lib (hid)
open Go.RowKit
set_option maxRecDepth 100000
def uppB (c : UInt8) : UInt8 := if 97 <= c.toNat /\ c.toNat <= 122 then c - 32 else c
def uppL (l : List UInt8) : List UInt8 := l.map uppB
def uppTo (k : Nat) (l : List UInt8) : List UInt8 := (l.take k).map uppB ++ l.drop k
theorem uppTo_length (k : Nat) (l : List UInt8) : (uppTo k l).length = l.length := by simp [uppTo]; omega
theorem uppTo_zero (l : List UInt8) : uppTo 0 l = l := by simp [uppTo]
theorem uppTo_all (l : List UInt8) : uppTo l.length l = uppL l := by simp [uppTo, uppL]
theorem uppTo_at (k : Nat) (l : List UInt8) (h : k < l.length) : (uppTo k l)[k]'(by rw [uppTo_length]; exact h) = l[k] := by
 unfold uppTo
 rw [List.getElem_append_right (by simp; omega)]
 simp [Nat.min_eq_left (Nat.le_of_lt h)]
theorem uppTo_set (k : Nat) (l : List UInt8) (h : k < l.length) : (uppTo k l).set k (uppB l[k]) = uppTo (k + 1) l := by
 unfold uppTo
 rw [List.set_append_right _ _ (by simp; omega), List.length_map, List.length_take, Nat.min_eq_left (Nat.le_of_lt h), Nat.sub_self, List.drop_eq_getElem_cons h, List.set_cons_zero,
  List.take_succ_eq_append_getElem h, List.map_append, List.append_assoc]
 simp
theorem uppTo_keep (k : Nat) (l : List UInt8) (h : k < l.length) (hn : uppB l[k] = l[k]) : uppTo (k + 1) l = uppTo k l := by
 rw [<- uppTo_set k l h, hn]
 have := uppTo_at k l h
 rw [<- this, List.set_getElem_self]
theorem uppB_mid (c : UInt8) (h1 : 97 <= (c.toNat : Int)) (h2 : (c.toNat : Int) <= 122) : ((uppB c).toNat : Int) = (c.toNat : Int) - 32 := by
 unfold uppB
 rw [if_pos ⟨by omega, by omega⟩, UInt8.toNat_sub]
 simp
 omega
theorem uppB_out (c : UInt8) (h : (c.toNat : Int) < 97 \/ 122 < (c.toNat : Int)) : uppB c = c := by
 unfold uppB
 rw [if_neg (by omega)]
theorem upp_store {wr : World} {g k : Nat} {l : List UInt8} {c : UInt8} (hr : RowAt wr g ((uppTo k l).map U8)) (hk : k < l.length) (HS : (uppTo k l).set k (uppB c) = uppTo (k + 1) l)
  (h1 : 97 <= (c.toNat : Int)) (h2 : (c.toNat : Int) <= 122) : RowAt (wr.setCell ⟨g, k, none⟩ (.int .u8 ((c.toNat : Int) - 32))) g ((uppTo (k + 1) l).map U8) := by
 rw [<- HS, <- uppB_mid c h1 h2]
 exact hr.set_u8 (by rw [uppTo_length]; exact hk) _
theorem upp_keep {wr : World} {g k : Nat} {l : List UInt8} {c : UInt8} (hr : RowAt wr g ((uppTo k l).map U8)) (hk : k < l.length) (hc : l[k] = c) (h : (c.toNat : Int) < 97 \/ 122 < (c.toNat : Int)) :
  RowAt wr g ((uppTo (k + 1) l).map U8) := by
 rw [uppTo_keep k l hk (by rw [hc]; exact uppB_out c h)]
 exact hr
end Go.Proofs.YtdhmpakhdhdebaaGreatDoor
namespace Go.Proofs.YtdhmpakhdhdebaaGreatDoor
open Go.Lib (hid)
open Go.RowKit
set_option maxRecDepth 100000
set_option maxHeartbeats 800000 in
theorem refPrefix_l (l : List UInt8) (w : World) (hl : l.length <= 1048576) :
  Calls Tryz.prog 208 #[.string (B l)] w fun e w' => e = .returned (.int .i64 (prefixNum l)) /\ Below w.heap.size w w' := by
 have SC := scalars_l l w (by omega)
 have BA := hid refBase_any; have SHA := hid shaped_l
 by_cases hl0 : l = []
 ·subst hl0
  have HE : Hid (prefixNum [] = 0) := hid rfl
  have SC2 : Hid (Calls Tryz.prog 187 #[.string (B [])] w fun e w' => ∃ a c, e = .returned (.tuple #[.slice a 0 c, .bool true]) /\ Below w.heap.size w w') := by
   refine hid (SC.mono ?_)
   rw [scalF_end (l := []) (i := 0) (Nat.le_refl _)]
   rintro e w' ⟨hb, a, c, he, _⟩
   exact ⟨a, c, he, hb⟩
  clear SC
  go_enter Tryz.func208, Tryz.ntmps208
  go_wp2_with (go_at_call 187; refine SC2.out.mono ?_; rintro e w1 ⟨a, c, rfl, hb⟩)
  go_ret
  exact ⟨ret_i64 HE.out.symm, hb⟩
 have e0 : l.isEmpty = false := List.isEmpty_eq_false_iff.2 hl0
 cases hs : scalF l 0 with
 | none =>
  rw [hs] at SC
  unfold ScalOut at SC
  have SC := hid SC
  have HE : Hid (prefixNum l = 62) := hid (prefixNum_none hl0 hs)
  clear hs hl0
  go_enter Tryz.func208, Tryz.ntmps208
  go_wp2_with (go_at_call 187; refine SC.out.mono ?_; rintro e w1 ⟨hb, rfl⟩)
  go_ret
  exact ⟨ret_i64 HE.out.symm, hb⟩
 | some sc =>
  have hlen := scalF_length l _ 0 sc (Nat.le_refl _) hs
  rw [hs] at SC
  unfold ScalOut at SC
  cases sc with
  | nil => exact absurd (scalF_nil hs) hl0
  | cons v t =>
   have SC := hid SC
   have htl : t.length + 1 <= 1048576 := by simp at hlen; omega
   have hw := prefixNum_cons hl0 hs
   clear hs hlen hl0
   cases hs1 : baseB v with
   | false =>
    have HE : Hid (prefixNum l = 62) := hid (by rw [hw, hs1]; rfl)
    clear hw
    go_enter Tryz.func208, Tryz.ntmps208
    go_wp2_with (first | (go_at_call 187; refine SC.out.mono ?_; rintro e w1 ⟨hb, a, c, rfl, ha⟩; obtain ⟨b1, o1, rfl⟩ := ha.place (by simp); have hc := intAt0 ha; have HA := hid ha; clear ha) | (go_at_call 112; refine (BA.out v _).mono ?_; rintro e w2 ⟨rfl, hx1⟩; replace HA := hid (HA.out.below hx1); replace hb := hb.trans (hx1.mono hb.size); clear hx1))
    go_ret
    exact ⟨ret_i64 HE.out.symm, hb⟩
   | true =>
    rw [hs1, Bool.true_and] at hw
    obtain ⟨q, hq⟩ : ∃ q, okRest t = q := ⟨_, rfl⟩
    rw [hq] at hw
    have SHA2 := hid (fun a c w (hn : (v :: t).length <= 16777216) (h : At w a ((v :: t).map I64)) => (show okRest ((v :: t).drop 1) = q from hq) ▸ SHA.out (v :: t) a c w hn h)
    clear hq
    cases q
    all_goals
     have HE := hid hw
     clear hw
     go_enter Tryz.func208, Tryz.ntmps208
     go_wp2_with (first | (go_at_call 187; refine SC.out.mono ?_; rintro e w1 ⟨hb, a, c, rfl, ha⟩; obtain ⟨b1, o1, rfl⟩ := ha.place (by simp); have hc := intAt0 ha; have HA := hid ha; clear ha) | (go_at_call 112; refine (BA.out v _).mono ?_; rintro e w2 ⟨rfl, hx1⟩; replace HA := hid (HA.out.below hx1); replace hb := hb.trans (hx1.mono hb.size); clear hx1) | (go_at_call 188; refine (SHA2.out _ _ _ (by simp; omega) HA.out).mono ?_; rintro e w4 ⟨rfl, hx1⟩; replace hb := hb.trans (hx1.mono hb.size); clear hx1))
     go_ret
     exact ⟨ret_i64 (by rw [HE.out]; rfl), hb⟩
end Go.Proofs.YtdhmpakhdhdebaaGreatDoor
namespace Go.Proofs.YtdhmpakhdhdebaaGreatDoor
open Go.Lib (hid)
open Go.RowKit
set_option maxRecDepth 100000
theorem cell_grown {w w' : World} {row : Option Nat} {b o : Nat} {v : Value} (h : w.cell? ⟨b, o, none⟩ = some v) (hg : w.grownBy w' row) (hne : some b ≠ row) : w'.cell? ⟨b, o, none⟩ = some v := by
 have e := hg.block b (World.block_lt_of_cell? _ _ h) hne
 simpa [World.cell?, e] using h
end Go.Proofs.YtdhmpakhdhdebaaGreatDoor
