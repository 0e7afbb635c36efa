/-
  errors.errorType as the row lists it, with the table of the bases; a world for a witness. By an AI agent.
-/
import Derived.Test.YtfjcbodkjjmagaaDoorFault
import Derived.Test.YtfjcbodkjjmagaaDoorLaidBases
import Derived.LaidLaws
import Derived.LaidHandle
namespace Go.Proofs.YtfjcbodkjjmagaaDoor
open Go.RowKit
set_option maxRecDepth 100000
theorem gErr : Tryd.prog.globalNamed "errors.errorType" = some 1 := by kernel_rfl
theorem rtypeRow : (Tryd.prog.cutTypes.find? (·.1 == "internal/reflectlite.rtype")).map (·.2) = some 142 := by kernel_rfl
theorem oneErrorRow : ((List.range 192).filter fun t => Tryd.prog.rowNamed t [101, 114, 114, 111, 114]) = [33] := by kernel_rfl
theorem typesSize2 : Tryd.prog.types.size = 192 := by kernel_rfl
theorem errType_of_handles {W : World} {hs : List (String × DataW Unit)} (h : handlesMet Tryd.prog (("errors.errorType", Rows.laid_errors_errorType) :: hs) W) : ErrType W := by
  obtain ⟨name, u, ty, e1, e2, e3, e4, e5⟩ := h _ (List.mem_cons_self ..)
  have en : name = [101, 114, 114, 111, 114] := (Option.some.inj e1).symm
  subst en
  obtain rfl := Option.some.inj (rtypeRow.symm.trans e2)
  have hm : ty ∈ (List.range 192).filter fun t => Tryd.prog.rowNamed t [101, 114, 114, 111, 114] := List.mem_filter.2 ⟨List.mem_range.2 (by rw [← typesSize2]; exact e3), e4⟩
  rw [oneErrorRow] at hm
  obtain rfl := List.mem_singleton.1 hm
  have hh : typeHandle Tryd.prog 33 = .pointer (some ⟨5, 33, none⟩) := by kernel_rfl
  rw [hh] at e5
  unfold ErrType
  simpa using World.var?_cell gErr e5 0
noncomputable def errWorld (os : Os) : World :=
  { basesWorld os with heap := (basesWorld os).heap.modify 1 fun
      | .cells _ t frozen => .cells #[.iface 142 (.agg #[.pointer (some ⟨5, 33, none⟩)])] t frozen
      | o => o }
end Go.Proofs.YtfjcbodkjjmagaaDoor
