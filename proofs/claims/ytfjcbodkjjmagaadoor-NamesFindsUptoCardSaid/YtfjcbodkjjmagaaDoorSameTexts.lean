/-
  sameTexts: contract. By an AI agent.
-/
import Derived.Test.YtfjcbodkjjmagaaDoorGPlain
import Derived.Test.YtfjcbodkjjmagaaDoorProg
import Derived.Deep.QuietTactic
import Derived.BigQuiet
namespace Go.Proofs.YtfjcbodkjjmagaaDoor
open Go.RowKit
set_option maxRecDepth 100000

theorem strAt {w : World} {b o : Nat} {ls : List (List UInt8)} (h : At w (some ⟨b, o, none⟩) (ls.map strV)) {k : Nat} (hk : k < ls.length) : w.cell? ⟨b, o + k, none⟩ = some (.string (B ls[k])) := by
  have := h.get (j := k) (by simpa using hk)
  rw [this]
  simp [strV]

set_option maxHeartbeats 400000 in
/-- two slices that hold the same texts are told to be the same -/
theorem sameTexts_yes (ls : List (List UInt8)) (a1 a2 : Option Addr) (c1 c2 : Nat) (w : World) (hn : ls.length ≤ maxLen) (h1 : At w a1 (ls.map strV)) (h2 : At w a2 (ls.map strV)) :
    Calls Tryd.prog 81 #[.slice a1 ls.length c1, .slice a2 ls.length c2] w fun e w' => e = .returned (.bool true) ∧ ∃ n, w' = w.drewN n := by
  unfold maxLen at hn
  have H1 := Lib.hid h1
  have H2 := Lib.hid h2
  clear h1 h2
  go_enter Tryd.func81, Tryd.ntmps81
  go_wp2
  go_loopw [5] (fun i wr => ∃ k n : Nat, k ≤ ls.length ∧ i = .int .i64 k ∧ wr = w.drewN n) (fun i _ => ls.length - (intOf i).toNat)
  case atStart => exact ⟨0, 0, Nat.zero_le _, rfl, rfl⟩
  case round =>
    obtain ⟨k, n, hk, rfl, rfl⟩ := hrel
    by_cases hlt : k < ls.length
    · obtain ⟨b1, o1, rfl⟩ := H1.out.place (by simp; omega)
      obtain ⟨b2, o2, rfl⟩ := H2.out.place (by simp; omega)
      have hc1 := strAt H1.out hlt
      have hc2 := strAt H2.out hlt
      go_wp2
      go_quiet (fail)
      go_wp2
      go_roundw
      case rel => exact ⟨k + 1, _, by omega, by go_num, rfl⟩
      case measure => simp [intOf]; omega
    · go_wp2
      go_ret
      exact ⟨rfl, n, rfl⟩
end Go.Proofs.YtfjcbodkjjmagaaDoor
