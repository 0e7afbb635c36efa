/-
  A term's text, a quad's line is read as that term, that quad: plain laws. No program in sight. By an AI agent.
-/
import Derived.Test.YtdhmpakhdhdebaaGreatDoorZMoreLexisGaps
import Derived.Test.YtdhmpakhdhdebaaGreatDoorZTerm1
namespace Go.Proofs.YtdhmpakhdhdebaaGreatDoor
open Go.RowKit
set_option maxRecDepth 100000
theorem utf_all {t : List UInt8} (h : ¬ 0 <= utfF t 0) : utfF t 0 = -1 := by
 rcases utfF_ge t t.length 0 (by omega) with h1 | h1 <;> omega
end Go.Proofs.YtdhmpakhdhdebaaGreatDoor
