/-
  names.Label, and what the reference needs for it: contracts. By an AI agent.
-/
import Derived.Test.YthipcepgbegaiaaDoorZGPlain
import Derived.Test.YthipcepgbegaiaaDoorZGUtf
namespace Go.Proofs.YthipcepgbegaiaaDoor
open Go.RowKit
set_option maxRecDepth 100000

/-- the number that tells of a label, of a prefix's name -/
def labelNum (l : List UInt8) : Int := if wholeR labelB l then 0 else 60
theorem label_l (l : List UInt8) (w : World) (hl : l.length ≤ 16777216) (hT : TabAt w) :
    Calls Tryd.prog 38 #[.string (B l)] w fun e w' => e = .returned (.int .i64 (labelNum l)) ∧ w' = w := by
  have hr := run_whole labelB l
  obtain ⟨n, hn⟩ : ∃ n, runF labelB l 0 = n := ⟨_, rfl⟩
  have R := Lib.hid (hn ▸ labelAt_l l 0 w (by omega) (by omega) hT)
  rw [hn] at hr
  clear hT hn
  by_cases h0 : n = 0
  · have HE : Hid (labelNum l = 60) := Lib.hid (by unfold labelNum; rw [← hr, decide_eq_false (by omega)]; rfl)
    have e0 : ((n : Int) == 0) = true := by rw [h0]; rfl
    clear hr h0
    go_enter Tryd.func38, Tryd.ntmps38
    go_wp2_with (go_at_call 44; refine R.out.mono ?_; rintro e w1 ⟨rfl, rfl⟩)
    go_ret
    exact ⟨ret_i64 HE.out.symm, rfl⟩
  have e0 : ((n : Int) == 0) = false := beq_eq_false_iff_ne.2 (by omega)
  by_cases h1 : n = l.length
  · have HE : Hid (labelNum l = 0) := Lib.hid (by unfold labelNum; rw [← hr, decide_eq_true ⟨h0, h1⟩]; rfl)
    have e1 : ((n : Int) != (l.length : Int)) = false := by rw [h1]; simp
    clear hr h0 h1
    go_enter Tryd.func38, Tryd.ntmps38
    go_wp2_with (go_at_call 44; refine R.out.mono ?_; rintro e w1 ⟨rfl, rfl⟩)
    go_ret
    exact ⟨ret_i64 HE.out.symm, rfl⟩
  · have HE : Hid (labelNum l = 60) := Lib.hid (by unfold labelNum; rw [← hr, decide_eq_false (by omega)]; rfl)
    have e1 : ((n : Int) != (l.length : Int)) = true := by rw [bne_iff_ne]; omega
    clear hr h0 h1
    go_enter Tryd.func38, Tryd.ntmps38
    go_wp2_with (go_at_call 44; refine R.out.mono ?_; rintro e w1 ⟨rfl, rfl⟩)
    go_ret
    exact ⟨ret_i64 HE.out.symm, rfl⟩

end Go.Proofs.YthipcepgbegaiaaDoor
