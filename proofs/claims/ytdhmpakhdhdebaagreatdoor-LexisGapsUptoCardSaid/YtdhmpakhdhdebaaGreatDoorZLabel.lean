/-
  names.Label, and what the reference needs for it: contracts. By an AI agent.
-/
import Derived.Test.YtdhmpakhdhdebaaGreatDoorZGPlain
import Derived.Test.YtdhmpakhdhdebaaGreatDoorZGUtf
import Derived.Test.YtdhmpakhdhdebaaGreatDoorZTerm1
import Derived.Test.YtdhmpakhdhdebaaGreatDoorZRdW0
import Derived.Test.YtdhmpakhdhdebaaGreatDoorZBarred
import Derived.Test.YtdhmpakhdhdebaaGreatDoorZUtfCheck
import Derived.Test.YtdhmpakhdhdebaaGreatDoorZTagCells
import Derived.Deep.RegionHeld3
import Derived.StillTailTactics
import Derived.WalkKit
namespace Go.Proofs.YtdhmpakhdhdebaaGreatDoor
open Go.RowKit
set_option maxRecDepth 100000
def labelNum (l : List UInt8) : Int := if wholeR labelB l then 0 else 60
def prefixNum (l : List UInt8) : Int := if l = [] then 0 else if wholeR baseB l then 0 else 62
theorem label_l (l : List UInt8) (w : World) (hl : l.length <= 16777216) (hT : TabAt w) :
   Calls Tryz.prog 134 #[.string (B l)] w fun e w' => e = .returned (.int .i64 (labelNum l)) /\ w' = w := by
 have hr := run_whole labelB l
 obtain ⟨n, hn⟩ : ∃ n, runF labelB l 0 = n := ⟨_, rfl⟩
 have R := Lib.hid (hn ▸ labelAt_l l 0 w (by omega) (by omega) hT)
 rw [hn] at hr
 clear hT hn
 by_cases h0 : n = 0
 · have HE : Hid (labelNum l = 60) := Lib.hid (by unfold labelNum; rw [<- hr, decide_eq_false (by omega)]; rfl)
   have e0 : ((n : Int) == 0) = true := by rw [h0]; rfl
   clear hr h0
   go_enter Tryz.func134, Tryz.ntmps134
   go_wp2_with (go_at_call 98; refine R.out.mono ?_; rintro e w1 ⟨rfl, rfl⟩)
   go_ret
   exact ⟨ret_i64 HE.out.symm, rfl⟩
 have e0 : ((n : Int) == 0) = false := beq_eq_false_iff_ne.2 (by omega)
 by_cases h1 : n = l.length
 · have HE : Hid (labelNum l = 0) := Lib.hid (by unfold labelNum; rw [<- hr, decide_eq_true ⟨h0, h1⟩]; rfl)
   have e1 : ((n : Int) != (l.length : Int)) = false := by rw [h1]; simp
   clear hr h0 h1
   go_enter Tryz.func134, Tryz.ntmps134
   go_wp2_with (go_at_call 98; refine R.out.mono ?_; rintro e w1 ⟨rfl, rfl⟩)
   go_ret
   exact ⟨ret_i64 HE.out.symm, rfl⟩
 · have HE : Hid (labelNum l = 60) := Lib.hid (by unfold labelNum; rw [<- hr, decide_eq_false (by omega)]; rfl)
   have e1 : ((n : Int) != (l.length : Int)) = true := by rw [bne_iff_ne]; omega
   clear hr h0 h1
   go_enter Tryz.func134, Tryz.ntmps134
   go_wp2_with (go_at_call 98; refine R.out.mono ?_; rintro e w1 ⟨rfl, rfl⟩)
   go_ret
   exact ⟨ret_i64 HE.out.symm, rfl⟩
end Go.Proofs.YtdhmpakhdhdebaaGreatDoor
namespace Go.Proofs.YtdhmpakhdhdebaaGreatDoor
open Go.RowKit
set_option maxRecDepth 100000
theorem unescape_ok {way : Int} {l t : List UInt8} (h : unescF way l 0 = .inl t) (hl : l.length <= 16777216) (w : World) :
   Calls Tryz.prog 142 #[.string (B l), .int .i64 way] w fun e w' => e = .returned (.tuple #[.string (B t), .nilIface]) /\ Below w.heap.size w w' :=
 (unescape_l way l w hl).mono fun e w' => by
   rw [h]
   rintro ⟨⟨v, rfl, hv⟩, hb⟩
   obtain rfl : v = .nilIface := hv
   exact ⟨rfl, hb⟩
theorem unescape_bad {way : Int} {l : List UInt8} {p : Nat} {n : Int} (h : unescF way l 0 = .inr (p, n)) (hl : l.length <= 16777216) (w : World) :
   Calls Tryz.prog 142 #[.string (B l), .int .i64 way] w fun e w' => ∃ b, e = .returned (.tuple #[.string ⟨#[]⟩, .iface 91 (.pointer (some ⟨b, 0, none⟩))]) /\ ErrIs w' (.iface 91 (.pointer (some ⟨b, 0, none⟩))) (.inr (p, n)) /\ Below w.heap.size w w' :=
 (unescape_l way l w hl).mono fun e w' => by
   rw [h]
   rintro ⟨⟨v, rfl, hv⟩, hb⟩
   have hv2 := hv
   obtain ⟨b, rfl, _, _⟩ := hv
   exact ⟨b, rfl, hv2, hb⟩
end Go.Proofs.YtdhmpakhdhdebaaGreatDoor
