/-
  In a world of the row's shape the library's MaxLen holds some number. By an AI agent.
-/
import Derived.Test.YtdhmpakhdhdebaaGreatDoorZTagCells
import Derived.Test.YtdhmpakhdhdebaaGreatDoorRows
import Derived.ProofKit
import Derived.OpenShut
namespace Go.Proofs.YtdhmpakhdhdebaaGreatDoor
open Go.RowKit
theorem maxAt_of_shaped {w : World} (h : w.ShapedOpen Tryz.prog) : MaxAt w := Tryz.laysM146.s1_3 w h
end Go.Proofs.YtdhmpakhdhdebaaGreatDoor
namespace Go.Proofs.YtdhmpakhdhdebaaGreatDoor
open Go.RowKit
set_option maxRecDepth 100000
theorem gBases : Tryz.prog.globalNamed "tessera/names.basesTable" = some 2 := by kernel_rfl
theorem gBasesType : (Tryz.prog.globals[2]?).map (·.type) = some 249 := by kernel_rfl
theorem cellsBases : Tryz.prog.cellsOf 249 = 24 := by kernel_rfl
theorem cellsI32 : Tryz.prog.cellsOf 21 = 1 := by kernel_rfl
def basesL : List Int := [192, 214, 216, 246, 248, 767, 880, 893, 895, 8191, 8204, 8205, 8304, 8591, 11264, 12271, 12289, 55295, 63744, 64975, 65008, 65533, 65536, 983039]
theorem basesL_at : ∀ k (h : k < 12), basesL.getD (2 * k) 0 = (ranges[k]'h).1 /\ basesL.getD (2 * k + 1) 0 = (ranges[k]'h).2 := by decide
theorem tabAt_of_is {W : World} (h : Lib.TabIs Tryz.prog W "tessera/names.basesTable" .i32 basesL) : TabAt W := by
 intro k hk
 have hk' : k < 12 := hk
 have h1 := h.cell gBases (2 * k) (by show _ < 24; omega)
 have h2 := h.cell gBases (2 * k + 1) (by show _ < 24; omega)
 rw [(basesL_at k hk').1] at h1
 rw [(basesL_at k hk').2] at h2
 exact ⟨h1, h2⟩
theorem tabAt_of_laid {W : World} {rest : List (String × DataW Unit)} (h : laidMet Tryz.prog (("tessera/names.basesTable", Rows.laid_tessera_names_basesTable) :: rest) W) : TabAt W :=
 tabAt_of_is (Lib.tabIs_of_head (rest := rest) gBases gBasesType Tryz.underlying249 Tryz.underlying21 cellsI32 cellsBases h)
end Go.Proofs.YtdhmpakhdhdebaaGreatDoor
namespace Go.Proofs.YtdhmpakhdhdebaaGreatDoor
open Go.RowKit
set_option maxRecDepth 100000
noncomputable def layG (g : Nat) (cs : List Value) (w : World) : World :=
 { w with heap := w.heap.modify g fun
   | .cells _ t frozen => .cells cs.toArray t frozen
   | o => o }
def acceptL : List Int := [128, 191, 160, 191, 128, 159, 144, 191, 128, 143, 0, 0, 0, 0, 0, 0, 0, 0, 0, 0, 0, 0, 0, 0, 0, 0, 0, 0, 0, 0, 0, 0]
noncomputable def tablesWorld (os : Os) : World :=
 layG 4 (Go.Pinned.utf8FirstZ.map fun (n : Nat) => Value.int .u8 (Int.ofNat n)) (layG 5 (acceptL.map (Value.int .u8)) (layG 2 (basesL.map (Value.int .i32)) (World.holding Tryz.prog os ⟨#[], #[], []⟩)))
end Go.Proofs.YtdhmpakhdhdebaaGreatDoor
namespace Go.Proofs.YtdhmpakhdhdebaaGreatDoor
theorem laidMet_tail {P : Program} {x : String × DataW Unit} {rest : List (String × DataW Unit)} {W : World} (h : laidMet P (x :: rest) W) : laidMet P rest W := by
 obtain ⟨n, d⟩ := x
 obtain ⟨ps, ⟨g, t, cs, fuel, p, q, h1, h2, h3, h4, h5, rfl⟩, hn, hc⟩ := h
 exact ⟨q, h5, (List.nodup_append.1 hn).2.1, fun b off hm => hc b off (List.mem_append_right _ hm)⟩
end Go.Proofs.YtdhmpakhdhdebaaGreatDoor
namespace Go.Proofs.YtdhmpakhdhdebaaGreatDoor
open Go.ChangeShapes Go.WideShapes Go.ChangeAt Go.RowKit
theorem trodAll_later {H : Type} {enc : TypeId × Value -> H} {P : Program} (hl : laidOutB P = true) {W W' : World} (hb : Below W.heap.size W W') :
  ∀ {ts : List TypeId} {vs : List Value} {ds : List (DataW H)} {ps : List MemPlace}, (∀ t ∈ ts, P.readableRec t = true /\ t < P.types.size) -> (∀ x ∈ ps, x.block < W.heap.size) ->
   DataW.TrodAll enc P W 0 (fun _ => true) true ts vs ds ps -> DataW.TrodAll enc P W' 0 (fun b => decide (b < W.heap.size)) true ts vs ds ps
 | [], vs, ds, ps, _, _, h => by
  obtain ⟨rfl, rfl, rfl⟩ := trodAll_nil h
  exact trodAll_mk0
 | t :: ts, vs, ds, ps, ht, hlt, h => by
  obtain ⟨v, vs', d, ds', p, q, rfl, rfl, rfl, h0, h1⟩ := trodAll_cons h
  exact trodAll_cons_mk (Below.trod hl (ht t (by simp)).1 (ht t (by simp)).2 h0 hb (fun x hx => hlt x (by simp [hx])))
   (trodAll_later hl hb (fun u hu => ht u (by simp [hu])) (fun x hx => hlt x (by simp [hx])) h1)
theorem law_post {H : Type} {enc : TypeId × Value -> H} {P : Program} {f : Func} {s : ChangeSpec} {T : TypeId} {W W' : World} {args : Array Value} {ds gs : List (DataW H)} {before : List MemPlace} (hl : laidOutB P = true) (hT : P.underlying T = some .bool)
  (hr : f.resultTypes = #[T]) (ht : ∀ t ∈ f.params.toList, P.readableRec t = true /\ t < P.types.size) (hv : s.vars = []) (hfn : s.fn H (ds ++ gs) = { results := [.lit (.bool true)], args := ds })
  (hW : DataW.Whole enc P f.params.toList s.vars false W args.toList ds gs before) (hb : Below W.heap.size W W') : s.post enc P f false true false false W args (.bool true) W' := by
 have hlt := hW.lt
 have hW' := hW
 obtain ⟨p, q, hA, hV, rfl, _, _⟩ := hW'
 rw [hv] at hV
 obtain ⟨rfl, rfl⟩ := trodVars_none hV
 have hA2 := trodAll_later hl hb ht (fun x hx => by simpa using hlt x (by simp [hx])) hA
 refine ⟨ds, [], _, [], p, [], hW, ?_, ?_, ?_, hb.frame _, fun h => by cases h⟩
 ·rw [hfn, hr]
  exact trodAll_mk1 (shut_bool hT _)
 ·rw [hfn]
  exact hA2
 ·rw [hfn, hv]
  exact rfl
end Go.Proofs.YtdhmpakhdhdebaaGreatDoor
namespace Go.Proofs.YtdhmpakhdhdebaaGreatDoor
theorem bulk_text {H : Type} (l : List UInt8) : Rows.uptoBulk (DataW.lit (H := H) (.string l)) = l.length + 1 := by simp [Rows.uptoBulk]
theorem bulk_of {H : Type} {l : List (DataW H)} (hk : Rows.uptoSmall H l = true) : Rows.uptoBulkAll l <= 1048576 := of_decide_eq_true hk
end Go.Proofs.YtdhmpakhdhdebaaGreatDoor
