/-
  The table of the bases, as the row lists it, lies where the walks read it; a world for a witness. By an AI agent.
  A world for a witness, in which the listed tables lie. By an AI agent.
  Of a list of laid variables, the later ones. No program in sight. By an AI agent.
-/
import Derived.Test.YthipcepgbegaiaaDoorRows
import Derived.Test.YthipcepgbegaiaaDoorZChars
import Derived.Lib.LaidTab
import GoSem.PinnedTables
namespace Go.Proofs.YthipcepgbegaiaaDoor
open Go.RowKit
set_option maxRecDepth 100000
theorem gBases : Tryd.prog.globalNamed "tessera/names.basesTable" = some 1 := by kernel_rfl
theorem gBasesType : (Tryd.prog.globals[1]?).map (·.type) = some 108 := by kernel_rfl
theorem cellsBases : Tryd.prog.cellsOf 108 = 24 := by kernel_rfl
theorem cellsI32 : Tryd.prog.cellsOf 21 = 1 := by kernel_rfl
def basesL : List Int := [192, 214, 216, 246, 248, 767, 880, 893, 895, 8191, 8204, 8205, 8304, 8591, 11264, 12271, 12289, 55295, 63744, 64975, 65008, 65533, 65536, 983039]
theorem basesL_at : ∀ k (h : k < 12), basesL.getD (2 * k) 0 = (ranges[k]'h).1 ∧ basesL.getD (2 * k + 1) 0 = (ranges[k]'h).2 := by decide
theorem tabAt_of_is {W : World} (h : Lib.TabIs Tryd.prog W "tessera/names.basesTable" .i32 basesL) : TabAt W := by
  intro k hk
  have hk' : k < 12 := hk
  have h1 := h.cell gBases (2 * k) (by show _ < 24; omega)
  have h2 := h.cell gBases (2 * k + 1) (by show _ < 24; omega)
  rw [(basesL_at k hk').1] at h1
  rw [(basesL_at k hk').2] at h2
  exact ⟨h1, h2⟩
theorem tabAt_of_laid {W : World} {rest : List (String × DataW Unit)} (h : laidMet Tryd.prog (("tessera/names.basesTable", Rows.laid_tessera_names_basesTable) :: rest) W) : TabAt W :=
  tabAt_of_is (Lib.tabIs_of_head (rest := rest) gBases gBasesType Tryd.underlying108 Tryd.underlying21 cellsI32 cellsBases h)
end Go.Proofs.YthipcepgbegaiaaDoor

namespace Go.Proofs.YthipcepgbegaiaaDoor
open Go.RowKit
set_option maxRecDepth 100000
noncomputable def layG (g : Nat) (cs : List Value) (w : World) : World :=
  { w with heap := w.heap.modify g fun
      | .cells _ t frozen => .cells cs.toArray t frozen
      | o => o }
def acceptL : List Int := [128, 191, 160, 191, 128, 159, 144, 191, 128, 143, 0, 0, 0, 0, 0, 0, 0, 0, 0, 0, 0, 0, 0, 0, 0, 0, 0, 0, 0, 0, 0, 0]
noncomputable def tablesWorld (os : Os) : World :=
  layG 2 (Go.Pinned.utf8FirstZ.map fun (n : Nat) => Value.int .u8 (Int.ofNat n)) (layG 3 (acceptL.map (Value.int .u8)) (layG 1 (basesL.map (Value.int .i32)) (World.holding Tryd.prog os ⟨#[], #[], []⟩)))
end Go.Proofs.YthipcepgbegaiaaDoor

namespace Go.Proofs.YthipcepgbegaiaaDoor
theorem laidMet_tail {P : Program} {x : String × DataW Unit} {rest : List (String × DataW Unit)} {W : World} (h : laidMet P (x :: rest) W) : laidMet P rest W := by
  obtain ⟨n, d⟩ := x
  obtain ⟨ps, ⟨g, t, cs, fuel, p, q, h1, h2, h3, h4, h5, rfl⟩, hn, hc⟩ := h
  exact ⟨q, h5, (List.nodup_append.1 hn).2.1, fun b off hm => hc b off (List.mem_append_right _ hm)⟩
end Go.Proofs.YthipcepgbegaiaaDoor
