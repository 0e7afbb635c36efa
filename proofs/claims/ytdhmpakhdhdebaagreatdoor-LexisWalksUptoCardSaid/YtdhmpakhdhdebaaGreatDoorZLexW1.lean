/-
  lexis: letters, digits, exponents: contracts. By an AI agent.
-/
import Derived.Test.YtdhmpakhdhdebaaGreatDoorZRefNx1
namespace Go.Proofs.YtdhmpakhdhdebaaGreatDoor
open Go.Lib (hid)
open Go.RowKit
set_option maxRecDepth 100000
theorem lexDigit_l (c : UInt8) (w : World) : Calls Tryz.prog 70 #[.int .u8 (c.toNat : Int)] w fun e w' => e = .returned (.bool (digC c)) /\ w' = w := by
 have hc : ∀ b, digC c = b -> Hid (digC c = b) := fun b h => hid h
 by_cases h1 : 48 <= c.toNat
 ·have d1 : decide ((48 : Int) <= (c.toNat : Int)) = true := decide_eq_true (by omega)
  by_cases h2 : c.toNat <= 57
  ·have d2 : decide ((c.toNat : Int) <= 57) = true := decide_eq_true (by omega)
   have H := hc true (by unfold digC; simp [h1, h2])
   clear h1 h2 hc
   go_enter Tryz.func70, Tryz.ntmps70
   go_wp2
   go_ret
   exact ⟨by rw [H.out]; rfl, rfl⟩
  ·have d2 : decide ((c.toNat : Int) <= 57) = false := decide_eq_false (by omega)
   have H := hc false (by unfold digC; simp [h1, h2])
   clear h1 h2 hc
   go_enter Tryz.func70, Tryz.ntmps70
   go_wp2
   go_ret
   exact ⟨by rw [H.out]; rfl, rfl⟩
 ·have d1 : decide ((48 : Int) <= (c.toNat : Int)) = false := decide_eq_false (by omega)
  have H := hc false (by unfold digC; simp [h1])
  clear h1 hc
  go_enter Tryz.func70, Tryz.ntmps70
  go_wp2
  go_ret
  exact ⟨by rw [H.out]; rfl, rfl⟩
set_option maxHeartbeats 1600000 in
theorem lexDigits_l (l : List UInt8) (i : Nat) (w : World) (hi : i <= l.length) (hl : l.length <= 4611686018427387904) : Calls Tryz.prog 102 #[.string (B l), .int .i64 (i : Int)] w fun e w' => e = .returned (.int .i64 ((digE l i - i : Nat) : Int)) /\ w' = w := by
 have HD := hid lexDigit_l
 have HB := hid (digE_bound l l.length i (by omega))
 go_enter Tryz.func102, Tryz.ntmps102
 go_wp2
 go_loopw [5] (fun z wr => ∃ n : Nat, z = .int .i64 n /\ i + n <= l.length /\ Hid (digE l (i + n) = digE l i) /\ wr = w) (fun z _ => l.length - (intOf z).toNat)
 case atStart => exact ⟨0, rfl, hi, hid rfl, rfl⟩
 case round =>
  obtain ⟨n, rfl, hn, HE, hw⟩ := hrel
  obtain ⟨W0, hW0⟩ : ∃ W0 : World, W0 = wr := ⟨_, rfl⟩
  subst hW0
  have hw2 := hid hw
  clear hw
  have n0 : 0 <= (i : Int) + (n : Int) := by omega
  by_cases hlt : i + n < l.length
  ·have c1 : decide ((i : Int) + (n : Int) < (l.length : Int)) = true := decide_eq_true (by omega)
   have c2 : decide (i + n < l.length) = true := decide_eq_true hlt
   have c3 : (i : Int) + (n : Int) < (l.length : Int) := by omega
   have hg : l.getD (i + n) 0 = l[i + n] := by simp [List.getD, hlt]
   obtain ⟨b, hb⟩ : ∃ b, digC l[i + n] = b := ⟨_, rfl⟩
   have HD2 := hid (HD.out l[i + n])
   rw [hb] at HD2
   cases b with
   | true =>
    have HN : Hid (digE l (i + (n + 1)) = digE l i) := hid (by rw [<- HE.out, <- Nat.add_assoc, digE_go hlt (by rw [hg]; exact hb)])
    clear hb hg HE
    go_wp2_with (go_at_call 70; (with_reducible refine (HD2.out _).mono ?_); rintro e w1 ⟨rfl, rfl⟩)
    go_roundw
    case rel => exact ⟨n + 1, by go_num, by omega, HN, hw2.out⟩
    case measure => simp [intOf]; omega
   | false =>
    have HN : Hid (digE l i = i + n) := hid (by rw [<- HE.out, digE_stop hlt (by rw [hg]; exact hb)])
    clear hb hg HE
    go_wp2_with (go_at_call 70; (with_reducible refine (HD2.out _).mono ?_); rintro e w1 ⟨rfl, rfl⟩)
    go_ret
    exact ⟨by rw [HN.out, Nat.add_sub_cancel_left]; rfl, hw2.out⟩
  ·have c1 : decide ((i : Int) + (n : Int) < (l.length : Int)) = false := decide_eq_false (by omega)
   have c2 : decide (i + n < l.length) = false := decide_eq_false hlt
   have HN : Hid (digE l i = i + n) := hid (by rw [<- HE.out, digE_end (by omega)])
   clear HE
   go_wp2
   go_ret
   exact ⟨by rw [HN.out, Nat.add_sub_cancel_left]; rfl, hw2.out⟩
end Go.Proofs.YtdhmpakhdhdebaaGreatDoor
namespace Go.Proofs.YtdhmpakhdhdebaaGreatDoor
open Go.Lib (hid)
open Go.RowKit
set_option maxRecDepth 100000
theorem powE_len {l : List UInt8} {i : Nat} (h : i < l.length) (he : expC (l.getD i 0) = true) : powE l i - i = if digE l (expD l i) - expD l i = 0 then 0 else expD l i - i + (digE l (expD l i) - expD l i) := by
 have h1 := digE_ge l (expD l i)
 have h2 := expD_gt l i
 by_cases hd : digE l (expD l i) = expD l i
 ·rw [powE_none hd, if_pos (by omega)]; omega
 ·rw [powE_some h he hd, if_neg (by omega)]; omega
set_option maxHeartbeats 1600000 in
theorem lexExp_l (l : List UInt8) (i : Nat) (w : World) (hi : i <= l.length) (hl : l.length <= 4611686018427387904) : Calls Tryz.prog 103 #[.string (B l), .int .i64 (i : Int)] w fun e w' => e = .returned (.int .i64 ((powE l i - i : Nat) : Int)) /\ w' = w := by
 by_cases hlt : i < l.length
 case neg =>
  have c1 : decide ((l.length : Int) <= (i : Int)) = true := decide_eq_true (by omega)
  have c2 : decide (l.length <= i) = true := decide_eq_true (by omega)
  have HE : Hid (powE l i - i = 0) := hid (by rw [powE_no (.inl (by omega))]; omega)
  clear hlt
  go_enter Tryz.func103, Tryz.ntmps103
  go_wp2
  go_ret
  exact ⟨by rw [HE.out]; rfl, rfl⟩
 have c1 : decide ((l.length : Int) <= (i : Int)) = false := decide_eq_false (by omega)
 have c2 : decide (l.length <= i) = false := decide_eq_false (by omega)
 have c3 : (i : Int) < (l.length : Int) := by omega
 have c4 : 0 <= (i : Int) := by omega
 have hg : l.getD i 0 = l[i] := by simp [List.getD, hlt]
 by_cases he : expC l[i] = true
 case neg =>
  have hn : l[i] ≠ 101 /\ l[i] ≠ 69 := by
   unfold expC at he
   simp only [Bool.or_eq_true, beq_iff_eq, not_or] at he
   exact he
  have e1 : ((l[i].toNat : Int) != 101) = true := byte_nei (d := 101) hn.1
  have e2 : ((l[i].toNat : Int) != 69) = true := byte_nei (d := 69) hn.2
  have HE : Hid (powE l i - i = 0) := hid (by rw [powE_no (.inr (by rw [hg]; simpa using he))]; omega)
  clear hn he hg
  go_enter Tryz.func103, Tryz.ntmps103
  go_wp2
  go_ret
  exact ⟨by rw [HE.out]; rfl, rfl⟩
 have hpl := powE_len hlt (by rw [hg]; exact he)
 have DG := hid (fun (k : Nat) (z : Int) (hz : z = (k : Int)) (hk : k <= l.length) (u : World) => show Calls Tryz.prog 102 #[.string (B l), .int .i64 z] u fun e w' => e = .returned (.int .i64 ((digE l k - k : Nat) : Int)) /\ w' = u from hz ▸ lexDigits_l l k u hk hl)
 have hxd := expD_gt l i
 have key : ∀ n : Nat, expD l i = i + n -> Hid ((powE l i - i : Nat) = if digE l (i + n) - (i + n) = 0 then 0 else n + (digE l (i + n) - (i + n))) := fun n hn => hid (by rw [hpl, hn, Nat.add_sub_cancel_left])
 have two : (((l[i].toNat : Int) != 101) = false) \/ (((l[i].toNat : Int) != 101) = true /\ ((l[i].toNat : Int) != 69) = false) := by
  unfold expC at he
  simp only [Bool.or_eq_true, beq_iff_eq] at he
  rcases he with h | h
  ·exact .inl (byte_eqi (d := 101) h)
  ·exact .inr ⟨byte_nei (d := 101) (by rw [h]; decide), byte_eqi (d := 69) h⟩
 by_cases hs : i + 1 < l.length
 case neg =>
  have d1 : decide ((i : Int) + 1 < (l.length : Int)) = false := decide_eq_false (by omega)
  have d2 : decide (i + 1 < l.length) = false := decide_eq_false hs
  have hD : expD l i = i + 1 := by unfold expD; rw [if_neg (fun h => hs h.1)]
  have K := key 1 hD
  have DD := hid (DG.out (i + 1) ((i : Int) + 1) (by omega) (by omega))
  clear key hpl hD hxd DG hg he hs
  have hdl : digE l (i + 1) - (i + 1) <= l.length := by have := digE_le (l := l) (i := i + 1) (by omega); omega
  obtain ⟨d, hd⟩ : ∃ d, digE l (i + 1) - (i + 1) = d := ⟨_, rfl⟩
  rw [hd] at DD K hdl
  clear hd
  by_cases hz : d = 0
  ·subst hz
   rw [if_pos rfl] at K
   rcases two with e1 | ⟨e1, e2⟩
   all_goals
    go_enter Tryz.func103, Tryz.ntmps103
    go_wp2_with (go_at_call 102; (with_reducible refine (DD.out _).mono ?_); rintro e w1 ⟨rfl, rfl⟩)
    go_ret
    exact ⟨by rw [K.out]; rfl, rfl⟩
  ·rw [if_neg hz] at K
   have z1 : ((d : Int) == 0) = false := beq_eq_false_iff_ne.2 (by omega)
   have hw : wrap64 (1 + (d : Int)) = 1 + (d : Int) := by unfold wrap64; omega
   rcases two with e1 | ⟨e1, e2⟩
   all_goals
    go_enter Tryz.func103, Tryz.ntmps103
    go_wp2_with (go_at_call 102; (with_reducible refine (DD.out _).mono ?_); rintro e w1 ⟨rfl, rfl⟩)
    go_ret
    exact ⟨by rw [K.out]; simp, rfl⟩
 have d1 : decide ((i : Int) + 1 < (l.length : Int)) = true := decide_eq_true (by omega)
 have d2 : decide (i + 1 < l.length) = true := decide_eq_true hs
 have d3 : (i : Int) + 1 < (l.length : Int) := by omega
 have d4 : 0 <= (i : Int) + 1 := by omega
 have hg1 : l.getD (i + 1) 0 = l[i + 1] := by simp [List.getD, hs]
 by_cases hsg : signC l[i + 1] = true
 ·have hD : expD l i = i + 2 := by unfold expD; rw [if_pos ⟨hs, by rw [hg1]; exact hsg⟩]
  have K := key 2 hD
  have DD := hid (DG.out (i + 2) ((i : Int) + 2) (by omega) (by omega))
  have four : (((l[i + 1].toNat : Int) == 43) = true) \/ (((l[i + 1].toNat : Int) == 43) = false /\ ((l[i + 1].toNat : Int) == 45) = true) := by
   unfold signC at hsg
   simp only [Bool.or_eq_true, beq_iff_eq] at hsg
   rcases hsg with h | h
   ·exact .inl (byte_eq (d := 43) h)
   ·exact .inr ⟨byte_ne (d := 43) (by rw [h]; decide), byte_eq (d := 45) h⟩
  clear key hpl hD hxd DG hg hg1 he hsg
  rcases four with f1 | ⟨f1, f2⟩
  all_goals
   have hdl : digE l (i + 2) - (i + 2) <= l.length := by have := digE_le (l := l) (i := i + 2) (by omega); omega
   obtain ⟨d, hd⟩ : ∃ d, digE l (i + 2) - (i + 2) = d := ⟨_, rfl⟩
   rw [hd] at DD K hdl
   clear hd
   by_cases hz : d = 0
   ·subst hz
    rw [if_pos rfl] at K
    rcases two with e1 | ⟨e1, e2⟩
    all_goals
     go_enter Tryz.func103, Tryz.ntmps103
     go_wp2_with (go_at_call 102; (with_reducible refine (DD.out _).mono ?_); rintro e w1 ⟨rfl, rfl⟩)
     go_ret
     exact ⟨by rw [K.out]; rfl, rfl⟩
   ·rw [if_neg hz] at K
    have z1 : ((d : Int) == 0) = false := beq_eq_false_iff_ne.2 (by omega)
    have hw : wrap64 (2 + (d : Int)) = 2 + (d : Int) := by unfold wrap64; omega
    rcases two with e1 | ⟨e1, e2⟩
    all_goals
     go_enter Tryz.func103, Tryz.ntmps103
     go_wp2_with (go_at_call 102; (with_reducible refine (DD.out _).mono ?_); rintro e w1 ⟨rfl, rfl⟩)
     go_ret
     exact ⟨by rw [K.out]; simp, rfl⟩
 ·have hD : expD l i = i + 1 := by unfold expD; rw [if_neg (fun h => hsg (by rw [<- hg1]; exact h.2))]
  have K := key 1 hD
  have DD := hid (DG.out (i + 1) ((i : Int) + 1) (by omega) (by omega))
  have hn : l[i + 1] ≠ 43 /\ l[i + 1] ≠ 45 := by
   unfold signC at hsg
   simp only [Bool.or_eq_true, beq_iff_eq, not_or] at hsg
   exact hsg
  have f1 : ((l[i + 1].toNat : Int) == 43) = false := byte_ne (d := 43) hn.1
  have f2 : ((l[i + 1].toNat : Int) == 45) = false := byte_ne (d := 45) hn.2
  clear key hpl hD hxd DG hg hg1 he hsg hn
  have hdl : digE l (i + 1) - (i + 1) <= l.length := by have := digE_le (l := l) (i := i + 1) (by omega); omega
  obtain ⟨d, hd⟩ : ∃ d, digE l (i + 1) - (i + 1) = d := ⟨_, rfl⟩
  rw [hd] at DD K hdl
  clear hd
  by_cases hz : d = 0
  ·subst hz
   rw [if_pos rfl] at K
   rcases two with e1 | ⟨e1, e2⟩
   all_goals
    go_enter Tryz.func103, Tryz.ntmps103
    go_wp2_with (go_at_call 102; (with_reducible refine (DD.out _).mono ?_); rintro e w1 ⟨rfl, rfl⟩)
    go_ret
    exact ⟨by rw [K.out]; rfl, rfl⟩
  ·rw [if_neg hz] at K
   have z1 : ((d : Int) == 0) = false := beq_eq_false_iff_ne.2 (by omega)
   have hw : wrap64 (1 + (d : Int)) = 1 + (d : Int) := by unfold wrap64; omega
   rcases two with e1 | ⟨e1, e2⟩
   all_goals
    go_enter Tryz.func103, Tryz.ntmps103
    go_wp2_with (go_at_call 102; (with_reducible refine (DD.out _).mono ?_); rintro e w1 ⟨rfl, rfl⟩)
    go_ret
    exact ⟨by rw [K.out]; simp, rfl⟩
end Go.Proofs.YtdhmpakhdhdebaaGreatDoor
namespace Go.Proofs.YtdhmpakhdhdebaaGreatDoor
open Go.Lib (hid)
open Go.RowKit
set_option maxRecDepth 100000
theorem utfBytesS_l (v : Int) (hs : scal v = true) (w : World) : Calls Tryz.prog 204 #[.int .i32 v] w fun e w' => (∃ g c, e = .returned (.tuple #[.slice (some ⟨g, 0, none⟩) (byU v).length c, .int .i64 0]) /\ At w' (some ⟨g, 0, none⟩) ((byU v).map U8)) /\ Below w.heap.size w w' := by
 obtain ⟨h0, h1, _⟩ := scal_cases hs
 have SC := hid (scalar_any v w)
 rw [hs] at SC
 have BY := hid (utfBytes_l v w h0 h1)
 clear h0 h1 hs
 go_enter Tryz.func204, Tryz.ntmps204
 go_wp2_with (first | (go_at_call 63; (with_reducible refine SC.out.mono ?_); rintro e w1 ⟨rfl, rfl⟩) | (go_at_call 169; (with_reducible refine BY.out.mono ?_); rintro e w2 ⟨c, rfl, ha, hb⟩; have HA := hid ha; have HB := hid hb; clear ha hb))
 go_ret2
 have hl : (bytesOf v).length = (byU v).length := by unfold byU; rw [List.length_map]
 exact ⟨⟨w1.heap.size, c, by rw [<- hl]; rfl, by rw [<- byU_cells]; exact HA.out⟩, HB.out⟩
theorem byU_pos {v : Int} (hs : scal v = true) : 0 < (byU v).length := by
 obtain ⟨c, t, h, _⟩ := byU_head hs
 rw [h]; simp
set_option maxHeartbeats 1600000 in
theorem follows_l (v : Int) (hs : scal v = true) (w : World) (hT : TabAt w) : Calls Tryz.prog 153 #[.int .i32 v] w fun e w' => e = .returned (.bool (followB v)) /\ Below w.heap.size w w' := by
 have BY := hid (utfBytesS_l v hs w)
 have hl := byU_len v
 have hp := byU_pos hs
 have LB := hid (fun (u : World) (hb : Below w.heap.size w u) => label_l (97 :: byU v) u (by simp only [List.length_cons]; omega) (hT.below hb))
 have e : (⟨#[97]⟩ : ByteArray) ++ B (byU v) = B (97 :: byU v) := B_append [97] (byU v)
 rw [<- e] at LB
 by_cases h46 : v = 46
 ·subst h46
  clear LB e hT
  go_enter Tryz.func153, Tryz.ntmps153
  go_wp2_with (go_at_call 204; (with_reducible refine BY.out.mono ?_); rintro e w1 ⟨⟨g, c, rfl, ha⟩, hb⟩; have HB := hid hb; clear hb ha)
  go_ret
  exact ⟨rfl, HB.out⟩
 ·have k : (v != 46) = true := bne_iff_ne.2 h46
  have hw := whole_a hs h46
  have HF : Hid (labelNum (97 :: byU v) = if followB v = true then 0 else 60) := hid (by unfold labelNum; rw [hw])
  clear hw h46 hs hT e
  obtain ⟨fb, hf⟩ : ∃ b, followB v = b := ⟨_, rfl⟩
  rw [hf] at HF ⊢
  rw [HF.out] at LB
  clear HF hf
  cases fb
  all_goals
   go_enter Tryz.func153, Tryz.ntmps153
   go_wp2_with (first | (go_at_call 204; (with_reducible refine BY.out.mono ?_); rintro e w1 ⟨⟨g, c, rfl, ha⟩, hb⟩; have HB := hid hb; have CV := conv_at (P := Tryz.prog) w1 35 9 5 _ c _ (byU v) rfl hp Tryz.underlying35 Tryz.underlying5 Tryz.underlying9 ha; clear hb ha) | (go_at_call 134; (with_reducible refine (LB.out _ HB.out).mono ?_); rintro e w2 ⟨rfl, rfl⟩))
   go_ret
   exact ⟨rfl, HB.out⟩
theorem lexB_l (b : Bool) (w : World) : Calls Tryz.prog 206 #[.bool b] w fun e w' => e = .returned (.int .i64 (if b = true then 1 else 0)) /\ w' = w := by
 cases b
 all_goals
  go_enter Tryz.func206, Tryz.ntmps206
  go_wp2
  go_ret
  exact ⟨rfl, rfl⟩
end Go.Proofs.YtdhmpakhdhdebaaGreatDoor
