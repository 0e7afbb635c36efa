/-
  errors.errorType as the row lists it, with the table of the bases; a world for a witness. By an AI agent.
-/
import Derived.Test.YtdegonmkikfghaaGreatDoorZAs
import Derived.Test.YtdegonmkikfghaaGreatDoorZLaw
import Derived.LaidLaws
import Derived.LaidHandle
import Derived.Lib.LaidU8T
import Derived.Test.YtdegonmkikfghaaGreatDoorZEol0
import Derived.Test.YtdegonmkikfghaaGreatDoorZKit
import Derived.ChangeSlices
import Derived.Test.YtdegonmkikfghaaGreatDoorProg
namespace Go.Proofs.YtdegonmkikfghaaGreatDoor
open Go.RowKit
set_option maxRecDepth 100000
theorem gErr : Tryz.prog.globalNamed "errors.errorType" = some 1 := by kernel_rfl
theorem rtypeRow : (Tryz.prog.cutTypes.find? (·.1 == "internal/reflectlite.rtype")).map (·.2) = some 207 := by kernel_rfl
theorem oneErrorRow : ((List.range Tryz.prog.types.size).filter fun t => Tryz.prog.rowNamed t [101, 114, 114, 111, 114]) = [38] := by kernel_rfl
theorem errType_of_handles {W : World} {hs : List (String × DataW Unit)} (h : handlesMet Tryz.prog (("errors.errorType", Rows.laid_errors_errorType) :: hs) W) : ErrType W := by
 obtain ⟨name, u, ty, e1, e2, e3, e4, e5⟩ := h _ (List.mem_cons_self ..)
 have en : name = [101, 114, 114, 111, 114] := (Option.some.inj e1).symm
 subst en
 obtain rfl := Option.some.inj (rtypeRow.symm.trans e2)
 have hm : ty ∈ (List.range Tryz.prog.types.size).filter fun t => Tryz.prog.rowNamed t [101, 114, 114, 111, 114] := List.mem_filter.2 ⟨List.mem_range.2 e3, e4⟩
 rw [oneErrorRow] at hm
 obtain rfl := List.mem_singleton.1 hm
 have hh : typeHandle Tryz.prog 38 = .pointer (some ⟨5, 38, none⟩) := by kernel_rfl
 rw [hh] at e5
 unfold ErrType
 simpa using World.var?_cell gErr e5 0
end Go.Proofs.YtdegonmkikfghaaGreatDoor
namespace Go.Proofs.YtdegonmkikfghaaGreatDoor
open Go.RowKit
set_option maxRecDepth 100000
def utRen : Go.Shelf.Ren := ⟨fun n => n, fun | 5 => 5 | 119 => 245 | 138 => 247 | 139 => 248 | n => n, fun | 3 => 2 | 4 => 3 | n => n⟩
theorem utTypes : U8Types Tryz.prog utRen := ⟨by kernel_rfl, by kernel_rfl, by kernel_rfl, by kernel_rfl⟩
theorem utExtra : U8Extra Tryz.prog utRen := ⟨by kernel_rfl, by kernel_rfl, by kernel_rfl, by kernel_rfl, by kernel_rfl, by kernel_rfl, by kernel_rfl⟩
theorem firstIs : Rows.laid_unicode_utf8_first = Lib.firstData := by kernel_rfl
theorem acceptIs : (Rows.laid_unicode_utf8_acceptRanges : DataW Unit) = Lib.acceptData := by kernel_rfl
theorem utAt_of_reads {W : World} (h3 : Lib.VarReads Tryz.prog W "unicode/utf8.first" Rows.laid_unicode_utf8_first) (h4 : Lib.VarReads Tryz.prog W "unicode/utf8.acceptRanges" Rows.laid_unicode_utf8_acceptRanges) : UtAt W := by
 rw [firstIs] at h3
 rw [acceptIs] at h4
 exact utf8Tabs_of_readsT (ρ := utRen) utTypes utExtra h3 h4
theorem met_parts {W : World} (h : laidMet Tryz.prog [("unicode/utf8.acceptRanges", Rows.laid_unicode_utf8_acceptRanges), ("tessera/names.basesTable", Rows.laid_tessera_names_basesTable), ("unicode/utf8.first", Rows.laid_unicode_utf8_first)] W /\ handlesMet Tryz.prog [("errors.errorType", Rows.laid_errors_errorType)] W) : TabAt W /\ UtAt W /\ ErrType W :=
 ⟨tabAt_of_laid (laidMet_tail h.1), utAt_of_reads (Lib.laidMet.reads h.1 (.tail _ (.tail _ (.head _)))) (Lib.laidMet.reads h.1 (.head _)), errType_of_handles h.2⟩
noncomputable def allWorld (os : Os) : World :=
 { tablesWorld os with heap := (tablesWorld os).heap.modify 1 fun
     | .cells _ t frozen => .cells #[.iface 207 (.agg #[.pointer (some ⟨5, 38, none⟩)])] t frozen
     | o => o }
end Go.Proofs.YtdegonmkikfghaaGreatDoor
namespace Go.Proofs.YtdegonmkikfghaaGreatDoor
open Go.ChangeShapes Go.WideShapes Go.ChangeAt Go.RowKit
set_option maxRecDepth 100000
theorem cellsInt1 : Tryz.prog.cellsOf 3 = 1 := by kernel_rfl
theorem ints_of_trod {H : Type} {enc : TypeId × Value -> H} {W : World} {fuel : Nat} {cs : List Value} {x : DataW H × List MemPlace} (h : DataW.trod enc Tryz.prog W 0 (fun _ => true) true fuel 51 cs = some x) :
   ∃ (oa : Option Addr) (oc : Nat) (ord : List Int), cs = [.slice oa ord.length oc] /\ At W oa (ord.map (Value.int .i64)) := by
 rcases open_ints Tryz.underlying51 Tryz.underlying3 cellsInt1 h with ⟨rfl, rfl⟩ | ⟨a, len, cap, zs, rfl, _, hl, _, hz, _, hcell, _⟩
 · exact ⟨none, 0, [], rfl, At.nil _ _⟩
 · have hlz : len <= zs.length := by rw [hz]; split <;> omega
   have e : (zs.take len).length = len := by simp; omega
   refine ⟨some a, cap, zs.take len, by rw [e], fun j hj => ?_⟩
   rw [List.length_map, e] at hj
   have hc := hcell j (by omega)
   obtain ⟨b, off, spot⟩ := a
   have hspot : spot = none := by simpa [Addr.add] using World.cell?_spot (hcell 0 (by omega))
   subst hspot
   refine ⟨b, off, rfl, ?_⟩
   rw [<- addO, hc]
   simp [List.getD, show j < zs.length by omega]
end Go.Proofs.YtdegonmkikfghaaGreatDoor
