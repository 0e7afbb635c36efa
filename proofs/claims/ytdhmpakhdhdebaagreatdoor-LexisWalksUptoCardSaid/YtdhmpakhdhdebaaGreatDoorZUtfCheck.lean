/-
  utf.Check, and the reference's: contracts. By an AI agent.
-/
import Derived.Test.YtdhmpakhdhdebaaGreatDoorZGUtf
import Derived.Test.YtdhmpakhdhdebaaGreatDoorZTerm1
namespace Go.Proofs.YtdhmpakhdhdebaaGreatDoor
open Go.Lib (hid)
open Go.RowKit
set_option maxRecDepth 100000
set_option maxHeartbeats 800000 in
theorem utfCheck_l (l : List UInt8) (w : World) (hl : l.length <= 4611686018427387904) :
  Calls Tryz.prog 20 #[.string (B l)] w fun e w' => e = .returned (.int .i64 (utfF l 0)) /\ w' = w := by
 have NX := hid (fun (j : Nat) (hj : j < l.length) (v : Int) (n : Nat) (h : nextAt l j = (v, n)) (u : World) => h ▸ next_l l j u hl (by omega))
 go_enter Tryz.func20, Tryz.ntmps20
 go_wp2_with fail
 go_loop [3] (fun i => ∃ j : Nat, j <= l.length /\ i = .int .i64 j /\ Hid (utfF l 0 = utfF l j)) (fun i => l.length - (intOf i).toNat)
 case atStart => exact ⟨0, Nat.zero_le _, rfl, hid rfl⟩
 case round =>
  obtain ⟨j, hj, rfl, HU⟩ := hrel
  by_cases hlt : j < l.length
  ·obtain ⟨v, n, hq⟩ : ∃ v n, nextAt l (j : Int) = (v, n) := ⟨_, _, rfl⟩
   have N2 := hid (NX.out j hlt v n hq)
   by_cases hn : n = 0
   ·have e0 : ((n : Int) == 0) = true := by rw [hn]; rfl
    have HE := hid (HU.out.trans (utfF_bad hlt (hn ▸ hq)))
    clear hq HU hn
    go_wp2_with (go_at_call 40; (with_reducible refine (N2.out _).mono ?_); rintro e w1 ⟨rfl, rfl⟩; unfold pairV)
    go_ret
    exact ⟨ret_i64 HE.out.symm, rfl⟩
   ·have e0 : ((n : Int) == 0) = false := beq_eq_false_iff_ne.2 (by omega)
    have hb := nextAt_bound hq hn
    have hjn : j + n <= l.length := by omega
    have hn1 : 0 < n := by omega
    have HE := hid (HU.out.trans (utfF_go hlt hq hn))
    clear hq HU hn hb
    go_wp2_with (go_at_call 40; (with_reducible refine (N2.out _).mono ?_); rintro e w1 ⟨rfl, rfl⟩; unfold pairV)
    go_round
    case rel => exact ⟨j + n, hjn, by go_num, HE⟩
    case measure => simp [intOf]; omega
  ·obtain rfl : j = l.length := by omega
   have HE := hid (HU.out.trans (utfF_end (Nat.le_refl _)))
   clear HU
   go_wp2_with fail
   go_ret
   exact ⟨ret_i64 HE.out.symm, rfl⟩
set_option maxHeartbeats 800000 in
theorem refUtfCheck_l (l : List UInt8) (w : World) (hl : l.length <= 4611686018427387904) :
  Calls Tryz.prog 41 #[.string (B l)] w fun e w' => e = .returned (.int .i64 (utfF l 0)) /\ Below w.heap.size w w' := by
 have NX := hid (fun (j : Nat) (hj : j < l.length) (v : Int) (n : Nat) (h : nextAt l j = (v, n)) (u : World) => h ▸ refNext_l l j u hl (by omega))
 go_enter Tryz.func41, Tryz.ntmps41
 go_wp2_with fail
 go_loopw [3] (fun i wr => ∃ j : Nat, j <= l.length /\ i = .int .i64 j /\ Hid (utfF l 0 = utfF l j) /\ Below w.heap.size w wr) (fun i _ => l.length - (intOf i).toNat)
 case atStart => exact ⟨0, Nat.zero_le _, rfl, hid rfl, Below.refl _ _⟩
 case round =>
  obtain ⟨j, hj, rfl, HU, hw⟩ := hrel
  by_cases hlt : j < l.length
  ·obtain ⟨v, n, hq⟩ : ∃ v n, nextAt l (j : Int) = (v, n) := ⟨_, _, rfl⟩
   have N2 := hid (NX.out j hlt v n hq)
   by_cases hn : n = 0
   ·have e0 : ((n : Int) == 0) = true := by rw [hn]; rfl
    have HE := hid (HU.out.trans (utfF_bad hlt (hn ▸ hq)))
    clear hq HU hn
    go_wp2_with (go_at_call 64; (with_reducible refine (N2.out _).mono ?_); rintro e w1 ⟨rfl, hb1⟩; unfold pairI)
    go_ret
    exact ⟨ret_i64 HE.out.symm, hw.trans (hb1.mono hw.size)⟩
   ·have e0 : ((n : Int) == 0) = false := beq_eq_false_iff_ne.2 (by omega)
    have hb := nextAt_bound hq hn
    have hjn : j + n <= l.length := by omega
    have hn1 : 0 < n := by omega
    have HE := hid (HU.out.trans (utfF_go hlt hq hn))
    clear hq HU hn hb
    go_wp2_with (go_at_call 64; (with_reducible refine (N2.out _).mono ?_); rintro e w1 ⟨rfl, hb1⟩; unfold pairI)
    go_roundw
    case rel => exact ⟨j + n, hjn, by go_num, HE, hw.trans (hb1.mono hw.size)⟩
    case measure => simp [intOf]; omega
  ·obtain rfl : j = l.length := by omega
   have HE := hid (HU.out.trans (utfF_end (Nat.le_refl _)))
   clear HU
   go_wp2_with fail
   go_ret
   exact ⟨ret_i64 HE.out.symm, hw⟩
end Go.Proofs.YtdhmpakhdhdebaaGreatDoor
