/-
  What every law's proof ends with: the call returned true, and below the heap's old size nothing has turned: then the row's post holds. No program in sight. By an AI agent.
-/
import Derived.ProofKit
import Derived.Carry
import Derived.SliceStrings
import Derived.JoinedCond
import Derived.OpenShut
import Derived.Test.YtfocpjcbfbbpgaaGreatDoorZGPlain
import Derived.Test.YtfocpjcbfbbpgaaGreatDoorRows
import Derived.Test.YtfocpjcbfbbpgaaGreatDoorZQuad0
import Derived.Test.YtfocpjcbfbbpgaaGreatDoorZApp
import Derived.Test.YtfocpjcbfbbpgaaGreatDoorZView
import Derived.Test.YtfocpjcbfbbpgaaGreatDoorProg
import Derived.Deep.Slices
import Derived.ChangeArms
import Derived.Test.YtfocpjcbfbbpgaaGreatDoorZLabel
import Derived.Test.YtfocpjcbfbbpgaaGreatDoorZLower
import Derived.Test.YtfocpjcbfbbpgaaGreatDoorShelf
import Derived.WalkSpells
import Derived.WalkSmall
import Derived.Test.YtfocpjcbfbbpgaaGreatDoorZTagCells
import Derived.Test.YtfocpjcbfbbpgaaGreatDoorZChars
import Derived.Lib.LaidTab
import GoSem.PinnedTables
namespace Go.Proofs.YtfocpjcbfbbpgaaGreatDoor
open Go.ChangeShapes Go.WideShapes Go.ChangeAt Go.RowKit
theorem trodAll_later {H : Type} {enc : TypeId × Value -> H} {P : Program} (hl : laidOutB P = true) {W W' : World} (hb : Below W.heap.size W W') :
   ∀ {ts : List TypeId} {vs : List Value} {ds : List (DataW H)} {ps : List MemPlace}, (∀ t ∈ ts, P.readableRec t = true /\ t < P.types.size) -> (∀ x ∈ ps, x.block < W.heap.size) ->
     DataW.TrodAll enc P W 0 (fun _ => true) true ts vs ds ps -> DataW.TrodAll enc P W' 0 (fun b => decide (b < W.heap.size)) true ts vs ds ps
 | [], vs, ds, ps, _, _, h => by
   obtain ⟨rfl, rfl, rfl⟩ := trodAll_nil h
   exact trodAll_mk0
 | t :: ts, vs, ds, ps, ht, hlt, h => by
   obtain ⟨v, vs', d, ds', p, q, rfl, rfl, rfl, h0, h1⟩ := trodAll_cons h
   exact trodAll_cons_mk (Below.trod hl (ht t (by simp)).1 (ht t (by simp)).2 h0 hb (fun x hx => hlt x (by simp [hx])))
     (trodAll_later hl hb (fun u hu => ht u (by simp [hu])) (fun x hx => hlt x (by simp [hx])) h1)
theorem law_post {H : Type} {enc : TypeId × Value -> H} {P : Program} {f : Func} {s : ChangeSpec} {T : TypeId} {W W' : World} {args : Array Value} {ds gs : List (DataW H)} {before : List MemPlace} (hl : laidOutB P = true) (hT : P.underlying T = some .bool)
   (hr : f.resultTypes = #[T]) (ht : ∀ t ∈ f.params.toList, P.readableRec t = true /\ t < P.types.size) (hv : s.vars = []) (hfn : s.fn H (ds ++ gs) = { results := [.lit (.bool true)], args := ds })
   (hW : DataW.Whole enc P f.params.toList s.vars false W args.toList ds gs before) (hb : Below W.heap.size W W') : s.post enc P f false true false false W args (.bool true) W' := by
 have hlt := hW.lt
 have hW' := hW
 obtain ⟨p, q, hA, hV, rfl, _, _⟩ := hW'
 rw [hv] at hV
 obtain ⟨rfl, rfl⟩ := trodVars_none hV
 have hA2 := trodAll_later hl hb ht (fun x hx => by simpa using hlt x (by simp [hx])) hA
 refine ⟨ds, [], _, [], p, [], hW, ?_, ?_, ?_, hb.frame _, fun h => by cases h⟩
 · rw [hfn, hr]
   exact trodAll_mk1 (shut_bool hT _)
 · rw [hfn]
   exact hA2
 · rw [hfn, hv]
   exact rfl
end Go.Proofs.YtfocpjcbfbbpgaaGreatDoor
namespace Go.Proofs.YtfocpjcbfbbpgaaGreatDoor
theorem bulk_text {H : Type} (l : List UInt8) : Rows.uptoBulk (DataW.lit (H := H) (.string l)) = l.length + 1 := by simp [Rows.uptoBulk]
theorem bulk_of {H : Type} {l : List (DataW H)} (hk : Rows.uptoSmall H l = true) : Rows.uptoBulkAll l <= 1048576 := of_decide_eq_true hk
end Go.Proofs.YtfocpjcbfbbpgaaGreatDoor
namespace Go.Proofs.YtfocpjcbfbbpgaaGreatDoor
open Go.ChangeShapes Go.WideShapes Go.ChangeAt Go.RowKit Go.Deep
set_option maxRecDepth 100000
theorem cellsTerm4 : Tryz.prog.cellsOf 23 = 4 := by kernel_rfl
def termD {H : Type} (t : TermL) : DataW H := .agg [.lit (.int .i64 t.kind), .lit (.string t.text), .lit (.string t.type), .lit (.string t.lang)]
section
variable {H : Type} {enc : TypeId × Value -> H} {W : World}
theorem four {α : Type} {l : List α} (h : l.length = 4) : ∃ a b c d, l = [a, b, c, d] := by
 match l, h with
 | [a, b, c, d], _ => exact ⟨a, b, c, d, rfl⟩
theorem strq_of_trod {fuel : Nat} {c : Value} {x : DataW H × List MemPlace} (h : DataW.trod enc Tryz.prog W 0 (fun _ => true) true fuel 9 [c] = some x) : ∃ l, c = .string (B l) /\ x.1 = .lit (.string l) := by
 obtain ⟨s, hc, hx, _⟩ := DataW.trod_string Tryz.underlying9 h
 cases hc
 subst hx
 exact ⟨s.data.toList, by rw [B_of], rfl⟩
theorem int_of_trod {fuel : Nat} {c : Value} {x : DataW H × List MemPlace} (h : DataW.trod enc Tryz.prog W 0 (fun _ => true) true fuel 3 [c] = some x) : ∃ n, c = .int .i64 n /\ x.1 = .lit (.int .i64 n) := by
 obtain ⟨n, hc, hx, _⟩ := DataW.trod_int Tryz.underlying3 h
 cases hc
 subst hx
 exact ⟨n, rfl, rfl⟩
theorem term_of_trod {fuel : Nat} {cs : List Value} {x : DataW H × List MemPlace} (h : DataW.trod enc Tryz.prog W 0 (fun _ => true) true fuel 23 cs = some x) : ∃ t, cs = termC t /\ x.1 = termD t := by
 obtain ⟨xs, n, _, hx, hcl, hlen, hff⟩ := DataW.trod_struct Tryz.underlying23 h
 rw [cellsTerm4] at hcl
 obtain ⟨v0, v1, v2, v3, rfl⟩ := four hcl
 obtain ⟨y0, y1, y2, y3, rfl⟩ := four (l := xs) hlen
 have e0 := hff 0 _ rfl
 have e1 := hff 1 _ rfl
 have e2 := hff 2 _ rfl
 have e3 := hff 3 _ rfl
 simp only [List.getElem?_cons_zero, List.getElem?_cons_succ] at e0 e1 e2 e3
 obtain ⟨l0, rfl, x0⟩ := int_of_trod e0
 obtain ⟨l1, rfl, x1⟩ := strq_of_trod e1
 obtain ⟨l2, rfl, x2⟩ := strq_of_trod e2
 obtain ⟨l3, rfl, x3⟩ := strq_of_trod e3
 refine ⟨⟨l0, l1, l2, l3⟩, rfl, ?_⟩
 have hd := congrArg Prod.fst hx
 simp only [List.map_cons, List.map_nil, x0, x1, x2, x3] at hd
 exact hd
end
end Go.Proofs.YtfocpjcbfbbpgaaGreatDoor
namespace Go.Proofs.YtfocpjcbfbbpgaaGreatDoor
open Go.ChangeShapes Go.WideShapes Go.ChangeAt Go.RowKit Go.Deep
set_option maxRecDepth 100000
theorem open_term {H : Type} {enc : TypeId × Value -> H} {W : World} {b0 : Nat} {v : Value} {d : DataW H} {ps : List MemPlace} (hv : Value.okWide Tryz.prog W .any b0 23 v) (h : DataW.Trod enc Tryz.prog W 0 (fun _ => true) true 23 v d ps) :
   ∃ t, v = termV t /\ d = termD t := by
 obtain ⟨cs, rfl, hcs⟩ := okWide_struct Tryz.underlying23 hv
 obtain ⟨fuel, hf⟩ := h
 obtain ⟨t, hc, hd⟩ := term_of_trod hf
 refine ⟨t, ?_, hd⟩
 have e : cs.toList = termC t := by simpa [Value.cells] using hc
 have e' : cs = (termC t).toArray := by rw [<- e]
 rw [e']
 rfl
theorem bulk_term {H : Type} (t : TermL) : t.text.length + t.type.length + t.lang.length <= Rows.uptoBulk (termD (H := H) t) := by
 simp only [termD, Rows.uptoBulk, Rows.uptoBulkAll]
 omega
end Go.Proofs.YtfocpjcbfbbpgaaGreatDoor
namespace Go.Proofs.YtfocpjcbfbbpgaaGreatDoor
open Go.RowKit
theorem maxAt_of_shaped {w : World} (h : w.ShapedOpen Tryz.prog) : MaxAt w := Tryz.laysM146.s1_3 w h
end Go.Proofs.YtfocpjcbfbbpgaaGreatDoor
namespace Go.Proofs.YtfocpjcbfbbpgaaGreatDoor
open Go.RowKit
set_option maxRecDepth 100000
theorem gBases : Tryz.prog.globalNamed "tessera/names.basesTable" = some 4 := by kernel_rfl
theorem gBasesType : (Tryz.prog.globals[4]?).map (·.type) = some 301 := by kernel_rfl
theorem cellsBases : Tryz.prog.cellsOf 301 = 24 := by kernel_rfl
theorem cellsI32 : Tryz.prog.cellsOf 21 = 1 := by kernel_rfl
def basesL : List Int := [192, 214, 216, 246, 248, 767, 880, 893, 895, 8191, 8204, 8205, 8304, 8591, 11264, 12271, 12289, 55295, 63744, 64975, 65008, 65533, 65536, 983039]
theorem basesL_at : ∀ k (h : k < 12), basesL.getD (2 * k) 0 = (ranges[k]'h).1 /\ basesL.getD (2 * k + 1) 0 = (ranges[k]'h).2 := by decide
theorem tabAt_of_is {W : World} (h : Lib.TabIs Tryz.prog W "tessera/names.basesTable" .i32 basesL) : TabAt W := by
 intro k hk
 have hk' : k < 12 := hk
 have h1 := h.cell gBases (2 * k) (by show _ < 24; omega)
 have h2 := h.cell gBases (2 * k + 1) (by show _ < 24; omega)
 rw [(basesL_at k hk').1] at h1
 rw [(basesL_at k hk').2] at h2
 exact ⟨h1, h2⟩
theorem tabAt_of_laid {W : World} {rest : List (String × DataW Unit)} (h : laidMet Tryz.prog (("tessera/names.basesTable", Rows.laid_tessera_names_basesTable) :: rest) W) : TabAt W :=
 tabAt_of_is (Lib.tabIs_of_head (rest := rest) gBases gBasesType Tryz.underlying301 Tryz.underlying21 cellsI32 cellsBases h)
end Go.Proofs.YtfocpjcbfbbpgaaGreatDoor
namespace Go.Proofs.YtfocpjcbfbbpgaaGreatDoor
open Go.RowKit
set_option maxRecDepth 100000
noncomputable def layG (g : Nat) (cs : List Value) (w : World) : World :=
 { w with heap := w.heap.modify g fun
     | .cells _ t frozen => .cells cs.toArray t frozen
     | o => o }
def acceptL : List Int := [128, 191, 160, 191, 128, 159, 144, 191, 128, 143, 0, 0, 0, 0, 0, 0, 0, 0, 0, 0, 0, 0, 0, 0, 0, 0, 0, 0, 0, 0, 0, 0]
noncomputable def tablesWorld (os : Os) : World :=
 layG 2 (Go.Pinned.utf8FirstZ.map fun (n : Nat) => Value.int .u8 (Int.ofNat n)) (layG 3 (acceptL.map (Value.int .u8)) (layG 4 (basesL.map (Value.int .i32)) (World.holding Tryz.prog os ⟨#[], #[], []⟩)))
end Go.Proofs.YtfocpjcbfbbpgaaGreatDoor
namespace Go.Proofs.YtfocpjcbfbbpgaaGreatDoor
theorem laidMet_tail {P : Program} {x : String × DataW Unit} {rest : List (String × DataW Unit)} {W : World} (h : laidMet P (x :: rest) W) : laidMet P rest W := by
 obtain ⟨n, d⟩ := x
 obtain ⟨ps, ⟨g, t, cs, fuel, p, q, h1, h2, h3, h4, h5, rfl⟩, hn, hc⟩ := h
 exact ⟨q, h5, (List.nodup_append.1 hn).2.1, fun b off hm => hc b off (List.mem_append_right _ hm)⟩
end Go.Proofs.YtfocpjcbfbbpgaaGreatDoor
