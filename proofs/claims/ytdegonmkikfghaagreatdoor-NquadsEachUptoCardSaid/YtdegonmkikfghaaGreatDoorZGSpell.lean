/-
  names.Spell: contract. By an AI agent.
  The reference's LabelAt: contract. By an AI agent.
  The reference's Spell: contract. By an AI agent.
-/
import Derived.Test.YtdegonmkikfghaaGreatDoorShelf
import Derived.Test.YtdegonmkikfghaaGreatDoorZBuilder
import Derived.Test.YtdegonmkikfghaaGreatDoorZGUtf
namespace Go.Proofs.YtdegonmkikfghaaGreatDoor
open Lib (hid)
open Go.RowKit
set_option maxRecDepth 100000
theorem builderString_l (B_ b : Nat) (l : List UInt8) (w : World) (h : BuildsB w B_ b l) (hBw : B_ <= w.heap.size) :
  Calls Tryz.prog 56 #[.pointer (some ⟨b, 0, none⟩)] w fun e w' => e = .returned (.string (B l)) /\ Below B_ w w' :=
 Tryz.Builder_String_any B_ b l w h hBw
theorem cat92 (m : List UInt8) : (⟨#[92]⟩ : ByteArray) ++ B m = B (92 :: m) := B_append [92] m
attribute [go_sem] cat92
end Go.Proofs.YtdegonmkikfghaaGreatDoor
namespace Go.Proofs.YtdegonmkikfghaaGreatDoor
open Lib (hid)
open Go.RowKit
set_option maxRecDepth 100000
set_option maxHeartbeats 1600000 in
theorem refLabelAt_l (l : List UInt8) (i : Int) (w : World) (hl : l.length <= 4611686018427387904) (hi : -9223372036854775808 <= i /\ i <= 9223372036854775807) :
  Calls Tryz.prog 129 #[.string (B l), .int .i64 i] w fun e w' => e = .returned (.int .i64 (runF labelB l i : Nat)) /\ Below w.heap.size w w' := by
 have NEXT := hid (fun (j : Int) (hj : -9223372036854775808 <= j /\ j <= 9223372036854775807) (v : Int) (n : Nat) (h : nextAt l j = (v, n)) (w : World) => h ▸ refNext_l l j w hl hj)
 have ST := hid refStart_any; have FOL := hid refFollow_any; have DIG := hid refDigit_any
 by_cases h0 : i < 0
 ·have HE : Hid (runF labelB l i = 0) := hid (runF_no (nextAt_out (.inl h0)) (.inl rfl))
  go_enter Tryz.func129, Tryz.ntmps129
  go_wp2_with fail
  go_loop [5, 7] (fun b v => b = .int .i64 0 /\ v = .int .i64 i) (fun _ _ => 0)
  case atStart => exact ⟨rfl, rfl⟩
  case round =>
   obtain ⟨rfl, rfl⟩ := hrel
   go_wp2_with fail
   go_ret
   exact ⟨ret_i64 (by rw [HE.out]; rfl), Below.refl _ _⟩
 obtain ⟨a, rfl⟩ := Int.eq_ofNat_of_zero_le (Int.not_lt.1 h0)
 by_cases h1 : l.length <= a
 ·have HE : Hid (runF labelB l a = 0) := hid (runF_no (nextAt_out (.inr (by omega))) (.inl rfl))
  go_enter Tryz.func129, Tryz.ntmps129
  go_wp2_with fail
  go_loop [5, 7] (fun b v => b = .int .i64 0 /\ v = .int .i64 a) (fun _ _ => 0)
  case atStart => exact ⟨rfl, rfl⟩
  case round =>
   obtain ⟨rfl, rfl⟩ := hrel
   go_wp2_with fail
   go_ret
   exact ⟨ret_i64 (by rw [HE.out]; rfl), Below.refl _ _⟩
 have hal : a < l.length := by omega
 clear h0 h1
 go_enter Tryz.func129, Tryz.ntmps129
 go_wp2_with fail
 go_loopw [5, 6, 7] (fun b f i wr => ∃ (fb : Bool) (j best : Nat), b = .int .i64 best /\ f = .bool fb /\ i = .int .i64 j /\ a <= j /\ j <= l.length /\ best <= l.length /\ Hid (fb = true /\ j = a /\ best = 0 \/ fb = false /\ a + best <= j /\ runF labelB l a = tailF l j (a + best) - a) /\ Below w.heap.size w wr) (fun _ _ i _ => l.length - (intOf i).toNat)
 case atStart => exact ⟨true, a, 0, rfl, rfl, rfl, Nat.le_refl _, by omega, Nat.zero_le _, .inl ⟨rfl, rfl, rfl⟩, Below.refl _ _⟩
 case round =>
  obtain ⟨fb, j, best, rfl, rfl, rfl, haj, hjl, hbl, HT, hb⟩ := hrel
  by_cases hlt : j < l.length
  ·obtain ⟨x, m, hq⟩ : ∃ x m, nextAt l (j : Int) = (x, m) := ⟨_, _, rfl⟩
   have N2 := hid (NEXT.out j (by omega) x m hq)
   by_cases hm : m = 0
   ·have HE : Hid (runF labelB l a = best) := by
     refine hid ?_
     rcases HT.out with ⟨_, e1, e2⟩ | ⟨_, _, e2⟩
     ·subst e1; rw [runF_no hq (.inl hm), e2]
     ·rw [e2, tailF_stop hq (.inl hm)]; omega
    have m0 : ((m : Int) == 0) = true := by rw [hm]; rfl
    clear hq hm HT
    go_wp2_with (first | (go_at_call 91; refine (N2.out _).mono ?_; rintro e w1 ⟨rfl, hx1⟩; replace hb := hb.trans (hx1.mono hb.size); clear hx1; unfold pairI) | (go_at_call 134; refine (ST.out x _).mono ?_; rintro e w2 ⟨rfl, hx1⟩; replace hb := hb.trans (hx1.mono hb.size); clear hx1) | (go_at_call 135; refine (DIG.out x _).mono ?_; rintro e w3 ⟨rfl, rfl⟩) | (go_at_call 174; refine (FOL.out x _).mono ?_; rintro e w4 ⟨rfl, hx1⟩; replace hb := hb.trans (hx1.mono hb.size); clear hx1))
    go_ret
    exact ⟨ret_i64 (by rw [HE.out]), hb⟩
   have m0 : ((m : Int) == 0) = false := beq_eq_false_iff_ne.2 (by omega)
   have hmb := nextAt_bound hq hm
   have hjm : j + m <= l.length := by omega
   have hjm1 : j < j + m := by omega
   cases fb with
   | true =>
    have hja : j = a /\ best = 0 := by rcases HT.out with h | h; exact h.2; cases h.1
    obtain ⟨rfl, rfl⟩ := hja
    cases hlab : labelB x with
    | false =>
     have HE : Hid (runF labelB l j = 0) := hid (runF_no hq (.inr hlab))
     have hs : startB x = false /\ digitB x = false := by unfold labelB at hlab; simpa using hlab
     obtain ⟨hs1, hs2⟩ := hs
     clear hq hm HT hmb hlab
     go_wp2_with (first | (go_at_call 91; refine (N2.out _).mono ?_; rintro e w1 ⟨rfl, hx1⟩; replace hb := hb.trans (hx1.mono hb.size); clear hx1; unfold pairI) | (go_at_call 134; refine (ST.out x _).mono ?_; rintro e w2 ⟨rfl, hx1⟩; replace hb := hb.trans (hx1.mono hb.size); clear hx1) | (go_at_call 135; refine (DIG.out x _).mono ?_; rintro e w3 ⟨rfl, rfl⟩) | (go_at_call 174; refine (FOL.out x _).mono ?_; rintro e w4 ⟨rfl, hx1⟩; replace hb := hb.trans (hx1.mono hb.size); clear hx1))
     go_ret
     exact ⟨ret_i64 (by rw [HE.out]; rfl), hb⟩
    | true =>
     have hfo := label_follow hlab
     have hx0 := label_not_dot hlab
     have x0 : (x != 46) = true := by rw [bne_iff_ne]; exact hx0
     have HT2 : Hid (j + (j + m - j) <= j + m /\ runF labelB l j = tailF l (j + m) (j + (j + m - j)) - j) :=
      hid (⟨by omega, by rw [runF_go hq (by rw [hlab]; rintro (h | h); exact hm h; cases h), show j + (j + m - j) = j + m by omega]⟩)
     cases hs1 : startB x with
     | true =>
      clear hq hm HT hmb hlab hx0
      go_wp2_with (first | (go_at_call 91; refine (N2.out _).mono ?_; rintro e w1 ⟨rfl, hx1⟩; replace hb := hb.trans (hx1.mono hb.size); clear hx1; unfold pairI) | (go_at_call 134; refine (ST.out x _).mono ?_; rintro e w2 ⟨rfl, hx1⟩; replace hb := hb.trans (hx1.mono hb.size); clear hx1) | (go_at_call 135; refine (DIG.out x _).mono ?_; rintro e w3 ⟨rfl, rfl⟩) | (go_at_call 174; refine (FOL.out x _).mono ?_; rintro e w4 ⟨rfl, hx1⟩; replace hb := hb.trans (hx1.mono hb.size); clear hx1))
      go_roundw
      case rel => exact ⟨false, j + m, j + m - j, by go_num, rfl, by go_num, by omega, hjm, by omega, .inr ⟨rfl, HT2.out⟩, hb⟩
      case measure => simp [intOf]; omega
     | false =>
      have hs2 : digitB x = true := by unfold labelB at hlab; rw [hs1] at hlab; simpa using hlab
      clear hq hm HT hmb hlab hx0
      go_wp2_with (first | (go_at_call 91; refine (N2.out _).mono ?_; rintro e w1 ⟨rfl, hx1⟩; replace hb := hb.trans (hx1.mono hb.size); clear hx1; unfold pairI) | (go_at_call 134; refine (ST.out x _).mono ?_; rintro e w2 ⟨rfl, hx1⟩; replace hb := hb.trans (hx1.mono hb.size); clear hx1) | (go_at_call 135; refine (DIG.out x _).mono ?_; rintro e w3 ⟨rfl, rfl⟩) | (go_at_call 174; refine (FOL.out x _).mono ?_; rintro e w4 ⟨rfl, hx1⟩; replace hb := hb.trans (hx1.mono hb.size); clear hx1))
      go_roundw
      case rel => exact ⟨false, j + m, j + m - j, by go_num, rfl, by go_num, by omega, hjm, by omega, .inr ⟨rfl, HT2.out⟩, hb⟩
      case measure => simp [intOf]; omega
   | false =>
    have HT1 : Hid (a + best <= j /\ runF labelB l a = tailF l j (a + best) - a) := by rcases HT.out with h | h; cases h.1; exact hid h.2
    clear HT
    by_cases hx : x = 46
    ·have x0 : (x != 46) = false := by rw [hx]; rfl
     have hfo : followB x = false := by rw [hx]; decide
     have HT2 : Hid (a + best <= j + m /\ runF labelB l a = tailF l (j + m) (a + best) - a) :=
      hid (⟨by have := HT1.out.1; omega, by rw [HT1.out.2, tailF_go hq (by rintro (h | h); exact hm h; exact h.1 hx), if_pos hx]⟩)
     clear hq hm hmb hx HT1
     go_wp2_with (first | (go_at_call 91; refine (N2.out _).mono ?_; rintro e w1 ⟨rfl, hx1⟩; replace hb := hb.trans (hx1.mono hb.size); clear hx1; unfold pairI) | (go_at_call 134; refine (ST.out x _).mono ?_; rintro e w2 ⟨rfl, hx1⟩; replace hb := hb.trans (hx1.mono hb.size); clear hx1) | (go_at_call 135; refine (DIG.out x _).mono ?_; rintro e w3 ⟨rfl, rfl⟩) | (go_at_call 174; refine (FOL.out x _).mono ?_; rintro e w4 ⟨rfl, hx1⟩; replace hb := hb.trans (hx1.mono hb.size); clear hx1))
     go_roundw
     case rel => exact ⟨false, j + m, best, rfl, rfl, by go_num, by omega, hjm, hbl, .inr ⟨rfl, HT2.out⟩, hb⟩
     case measure => simp [intOf]; omega
    ·have x0 : (x != 46) = true := by rw [bne_iff_ne]; exact hx
     cases hfo : followB x with
     | false =>
      have HE : Hid (runF labelB l a = best) := hid (by rw [HT1.out.2, tailF_stop hq (.inr ⟨hx, hfo⟩)]; omega)
      clear hq hm hmb hx HT1
      go_wp2_with (first | (go_at_call 91; refine (N2.out _).mono ?_; rintro e w1 ⟨rfl, hx1⟩; replace hb := hb.trans (hx1.mono hb.size); clear hx1; unfold pairI) | (go_at_call 134; refine (ST.out x _).mono ?_; rintro e w2 ⟨rfl, hx1⟩; replace hb := hb.trans (hx1.mono hb.size); clear hx1) | (go_at_call 135; refine (DIG.out x _).mono ?_; rintro e w3 ⟨rfl, rfl⟩) | (go_at_call 174; refine (FOL.out x _).mono ?_; rintro e w4 ⟨rfl, hx1⟩; replace hb := hb.trans (hx1.mono hb.size); clear hx1))
      go_ret
      exact ⟨ret_i64 (by rw [HE.out]), hb⟩
     | true =>
      have HT2 : Hid (a + (j + m - a) <= j + m /\ runF labelB l a = tailF l (j + m) (a + (j + m - a)) - a) :=
       hid (⟨by omega, by rw [HT1.out.2, tailF_go hq (by rw [hfo]; rintro (h | h); exact hm h; cases h.2), if_neg hx, show a + (j + m - a) = j + m by omega]⟩)
      clear hq hm hmb hx HT1
      go_wp2_with (first | (go_at_call 91; refine (N2.out _).mono ?_; rintro e w1 ⟨rfl, hx1⟩; replace hb := hb.trans (hx1.mono hb.size); clear hx1; unfold pairI) | (go_at_call 134; refine (ST.out x _).mono ?_; rintro e w2 ⟨rfl, hx1⟩; replace hb := hb.trans (hx1.mono hb.size); clear hx1) | (go_at_call 135; refine (DIG.out x _).mono ?_; rintro e w3 ⟨rfl, rfl⟩) | (go_at_call 174; refine (FOL.out x _).mono ?_; rintro e w4 ⟨rfl, hx1⟩; replace hb := hb.trans (hx1.mono hb.size); clear hx1))
      go_roundw
      case rel => exact ⟨false, j + m, j + m - a, by go_num, rfl, by go_num, by omega, hjm, by omega, .inr ⟨rfl, HT2.out⟩, hb⟩
      case measure => simp [intOf]; omega
  ·obtain rfl : j = l.length := by omega
   have HE : Hid (runF labelB l a = best) := by
    refine hid ?_
    rcases HT.out with ⟨_, e1, e2⟩ | ⟨_, _, e2⟩
    ·omega
    ·rw [e2, tailF_stop (nextAt_out (.inr (Int.le_refl _))) (.inl rfl)]; omega
   clear HT
   go_wp2_with fail
   go_ret
   exact ⟨ret_i64 (by rw [HE.out]), hb⟩
end Go.Proofs.YtdegonmkikfghaaGreatDoor
namespace Go.Proofs.YtdegonmkikfghaaGreatDoor
open Lib (hid)
open Go.RowKit
set_option maxRecDepth 100000
end Go.Proofs.YtdegonmkikfghaaGreatDoor
