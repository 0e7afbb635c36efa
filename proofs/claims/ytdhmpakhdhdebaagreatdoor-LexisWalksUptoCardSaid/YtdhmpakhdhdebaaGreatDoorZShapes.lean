/-
  names.Prefix: contract. By an AI agent.
-/
import Derived.Test.YtdhmpakhdhdebaaGreatDoorZLabel
namespace Go.Proofs.YtdhmpakhdhdebaaGreatDoor
open Go.Lib (hid)
open Go.RowKit
set_option maxRecDepth 100000
theorem prefix_l (l : List UInt8) (w : World) (hl : l.length <= 16777216) (hT : TabAt w) :
  Calls Tryz.prog 107 #[.string (B l)] w fun e w' => e = .returned (.int .i64 (prefixNum l)) /\ w' = w := by
 have hr := run_whole baseB l
 obtain ⟨n, hn⟩ : ∃ n, runF baseB l 0 = n := ⟨_, rfl⟩
 have R := hid (hn ▸ run_base l 0 w (by omega) (by omega) hT)
 rw [hn] at hr
 clear hT hn
 by_cases h0 : l = []
 ·have HE : Hid (prefixNum l = 0) := hid (by unfold prefixNum; rw [if_pos h0])
  have e0 : l.isEmpty = true := by rw [h0]; rfl
  clear hr h0
  go_enter Tryz.func107, Tryz.ntmps107
  go_wp2_with fail
  go_ret
  exact ⟨ret_i64 HE.out.symm, rfl⟩
 have e0 : l.isEmpty = false := List.isEmpty_eq_false_iff.2 h0
 have hlen : 0 < l.length := List.length_pos_iff.2 h0
 by_cases h1 : n = l.length
 ·have HE : Hid (prefixNum l = 0) := hid (by unfold prefixNum; rw [if_neg h0, <- hr, decide_eq_true ⟨by omega, h1⟩]; rfl)
  have e1 : ((n : Int) != (l.length : Int)) = false := by rw [h1]; simp
  clear hr h0 h1
  go_enter Tryz.func107, Tryz.ntmps107
  go_wp2_with (go_at_call 143; refine R.out.mono ?_; rintro e w1 ⟨rfl, rfl⟩)
  go_ret
  exact ⟨ret_i64 HE.out.symm, rfl⟩
 ·have HE : Hid (prefixNum l = 62) := hid (by unfold prefixNum; rw [if_neg h0, <- hr, decide_eq_false (by omega)]; rfl)
  have e1 : ((n : Int) != (l.length : Int)) = true := by rw [bne_iff_ne]; omega
  clear hr h0 h1
  go_enter Tryz.func107, Tryz.ntmps107
  go_wp2_with (go_at_call 143; refine R.out.mono ?_; rintro e w1 ⟨rfl, rfl⟩)
  go_ret
  exact ⟨ret_i64 HE.out.symm, rfl⟩
end Go.Proofs.YtdhmpakhdhdebaaGreatDoor
