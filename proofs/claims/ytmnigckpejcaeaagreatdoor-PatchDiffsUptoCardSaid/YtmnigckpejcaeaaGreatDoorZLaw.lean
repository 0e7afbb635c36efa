/-
  The table of the bases, as the row lists it, lies where the walks read it; a world for a witness. By an AI agent.
  A world for a witness, in which the listed tables lie. By an AI agent.
  Of a list of laid variables, the later ones. No program in sight. By an AI agent.
-/
import Derived.Test.YtmnigckpejcaeaaGreatDoorRows
import Derived.Test.YtmnigckpejcaeaaGreatDoorZChars
import Derived.Lib.LaidTab
import GoSem.PinnedTables
import Derived.Test.YtmnigckpejcaeaaGreatDoorZAs
import Derived.LaidLaws
import Derived.LaidHandle
import Derived.Lib.LaidU8T
import Derived.Test.YtmnigckpejcaeaaGreatDoorZEol0
import Derived.ProofKit
import Derived.Carry
import Derived.SliceStrings
import Derived.JoinedCond
import Derived.OpenShut
import Derived.Test.YtmnigckpejcaeaaGreatDoorZGPlain
import Derived.Test.YtmnigckpejcaeaaGreatDoorZApp
import Derived.Deep.Slices
import Derived.ChangeArms
import Derived.Test.YtmnigckpejcaeaaGreatDoorZLower
import Derived.Test.YtmnigckpejcaeaaGreatDoorShelf
import Derived.WalkSpells
import Derived.WalkSmall
import Derived.Test.YtmnigckpejcaeaaGreatDoorZTagCells
namespace Go.Proofs.YtmnigckpejcaeaaGreatDoor
open Go.RowKit
set_option maxRecDepth 100000
theorem gBases : Tryz.prog.globalNamed "tessera/names.basesTable" = some 4 := by kernel_rfl
theorem gBasesType : (Tryz.prog.globals[4]?).map (·.type) = some 296 := by kernel_rfl
theorem cellsBases : Tryz.prog.cellsOf 296 = 24 := by kernel_rfl
theorem cellsI32 : Tryz.prog.cellsOf 21 = 1 := by kernel_rfl
def basesL : List Int := [192, 214, 216, 246, 248, 767, 880, 893, 895, 8191, 8204, 8205, 8304, 8591, 11264, 12271, 12289, 55295, 63744, 64975, 65008, 65533, 65536, 983039]
theorem basesL_at : ∀ k (h : k < 12), basesL.getD (2 * k) 0 = (ranges[k]'h).1 /\ basesL.getD (2 * k + 1) 0 = (ranges[k]'h).2 := by decide
theorem tabAt_of_is {W : World} (h : Lib.TabIs Tryz.prog W "tessera/names.basesTable" .i32 basesL) : TabAt W := by
 intro k hk
 have hk' : k < 12 := hk
 have h1 := h.cell gBases (2 * k) (by show _ < 24; omega)
 have h2 := h.cell gBases (2 * k + 1) (by show _ < 24; omega)
 rw [(basesL_at k hk').1] at h1
 rw [(basesL_at k hk').2] at h2
 exact ⟨h1, h2⟩
theorem tabAt_of_laid {W : World} {rest : List (String × DataW Unit)} (h : laidMet Tryz.prog (("tessera/names.basesTable", Rows.laid_tessera_names_basesTable) :: rest) W) : TabAt W :=
 tabAt_of_is (Lib.tabIs_of_head (rest := rest) gBases gBasesType Tryz.underlying296 Tryz.underlying21 cellsI32 cellsBases h)
end Go.Proofs.YtmnigckpejcaeaaGreatDoor
namespace Go.Proofs.YtmnigckpejcaeaaGreatDoor
open Go.RowKit
set_option maxRecDepth 100000
noncomputable def layG (g : Nat) (cs : List Value) (w : World) : World :=
 { w with heap := w.heap.modify g fun
     | .cells _ t frozen => .cells cs.toArray t frozen
     | o => o }
def acceptL : List Int := [128, 191, 160, 191, 128, 159, 144, 191, 128, 143, 0, 0, 0, 0, 0, 0, 0, 0, 0, 0, 0, 0, 0, 0, 0, 0, 0, 0, 0, 0, 0, 0]
noncomputable def tablesWorld (os : Os) : World :=
 layG 2 (Go.Pinned.utf8FirstZ.map fun (n : Nat) => Value.int .u8 (Int.ofNat n)) (layG 3 (acceptL.map (Value.int .u8)) (layG 4 (basesL.map (Value.int .i32)) (World.holding Tryz.prog os ⟨#[], #[], []⟩)))
end Go.Proofs.YtmnigckpejcaeaaGreatDoor
namespace Go.Proofs.YtmnigckpejcaeaaGreatDoor
theorem laidMet_tail {P : Program} {x : String × DataW Unit} {rest : List (String × DataW Unit)} {W : World} (h : laidMet P (x :: rest) W) : laidMet P rest W := by
 obtain ⟨n, d⟩ := x
 obtain ⟨ps, ⟨g, t, cs, fuel, p, q, h1, h2, h3, h4, h5, rfl⟩, hn, hc⟩ := h
 exact ⟨q, h5, (List.nodup_append.1 hn).2.1, fun b off hm => hc b off (List.mem_append_right _ hm)⟩
end Go.Proofs.YtmnigckpejcaeaaGreatDoor
namespace Go.Proofs.YtmnigckpejcaeaaGreatDoor
open Go.RowKit
set_option maxRecDepth 100000
theorem gErr : Tryz.prog.globalNamed "errors.errorType" = some 1 := by kernel_rfl
theorem rtypeRow : (Tryz.prog.cutTypes.find? (·.1 == "internal/reflectlite.rtype")).map (·.2) = some 186 := by kernel_rfl
theorem oneErrorRow : ((List.range Tryz.prog.types.size).filter fun t => Tryz.prog.rowNamed t [101, 114, 114, 111, 114]) = [34] := by kernel_rfl
theorem errType_of_handles {W : World} {hs : List (String × DataW Unit)} (h : handlesMet Tryz.prog (("errors.errorType", Rows.laid_errors_errorType) :: hs) W) : ErrType W := by
 obtain ⟨name, u, ty, e1, e2, e3, e4, e5⟩ := h _ (List.mem_cons_self ..)
 have en : name = [101, 114, 114, 111, 114] := (Option.some.inj e1).symm
 subst en
 obtain rfl := Option.some.inj (rtypeRow.symm.trans e2)
 have hm : ty ∈ (List.range Tryz.prog.types.size).filter fun t => Tryz.prog.rowNamed t [101, 114, 114, 111, 114] := List.mem_filter.2 ⟨List.mem_range.2 e3, e4⟩
 rw [oneErrorRow] at hm
 obtain rfl := List.mem_singleton.1 hm
 have hh : typeHandle Tryz.prog 34 = .pointer (some ⟨5, 34, none⟩) := by kernel_rfl
 rw [hh] at e5
 unfold ErrType
 simpa using World.var?_cell gErr e5 0
end Go.Proofs.YtmnigckpejcaeaaGreatDoor
namespace Go.Proofs.YtmnigckpejcaeaaGreatDoor
open Go.RowKit
set_option maxRecDepth 100000
def utRen : Go.Shelf.Ren := ⟨fun n => n, fun | 5 => 5 | 119 => 174 | 138 => 176 | 139 => 177 | n => n, fun | 3 => 2 | 4 => 3 | n => n⟩
theorem utTypes : U8Types Tryz.prog utRen := ⟨by kernel_rfl, by kernel_rfl, by kernel_rfl, by kernel_rfl⟩
theorem utExtra : U8Extra Tryz.prog utRen := ⟨by kernel_rfl, by kernel_rfl, by kernel_rfl, by kernel_rfl, by kernel_rfl, by kernel_rfl, by kernel_rfl⟩
theorem firstIs : Rows.laid_unicode_utf8_first = Lib.firstData := by kernel_rfl
theorem acceptIs : (Rows.laid_unicode_utf8_acceptRanges : DataW Unit) = Lib.acceptData := by kernel_rfl
theorem utAt_of_reads {W : World} (h3 : Lib.VarReads Tryz.prog W "unicode/utf8.first" Rows.laid_unicode_utf8_first) (h4 : Lib.VarReads Tryz.prog W "unicode/utf8.acceptRanges" Rows.laid_unicode_utf8_acceptRanges) : UtAt W := by
 rw [firstIs] at h3
 rw [acceptIs] at h4
 exact utf8Tabs_of_readsT (ρ := utRen) utTypes utExtra h3 h4
theorem met_parts {W : World} (h : laidMet Tryz.prog [("unicode/utf8.acceptRanges", Rows.laid_unicode_utf8_acceptRanges), ("tessera/names.basesTable", Rows.laid_tessera_names_basesTable), ("unicode/utf8.first", Rows.laid_unicode_utf8_first)] W /\ handlesMet Tryz.prog [("errors.errorType", Rows.laid_errors_errorType)] W) : TabAt W /\ UtAt W /\ ErrType W :=
 ⟨tabAt_of_laid (laidMet_tail h.1), utAt_of_reads (Lib.laidMet.reads h.1 (.tail _ (.tail _ (.head _)))) (Lib.laidMet.reads h.1 (.head _)), errType_of_handles h.2⟩
noncomputable def allWorld (os : Os) : World :=
 { tablesWorld os with heap := (tablesWorld os).heap.modify 1 fun
     | .cells _ t frozen => .cells #[.iface 186 (.agg #[.pointer (some ⟨5, 34, none⟩)])] t frozen
     | o => o }
end Go.Proofs.YtmnigckpejcaeaaGreatDoor
namespace Go.Proofs.YtmnigckpejcaeaaGreatDoor
open Go.ChangeShapes Go.WideShapes Go.ChangeAt Go.RowKit
theorem trodAll_later {H : Type} {enc : TypeId × Value -> H} {P : Program} (hl : laidOutB P = true) {W W' : World} (hb : Below W.heap.size W W') :
   ∀ {ts : List TypeId} {vs : List Value} {ds : List (DataW H)} {ps : List MemPlace}, (∀ t ∈ ts, P.readableRec t = true /\ t < P.types.size) -> (∀ x ∈ ps, x.block < W.heap.size) ->
     DataW.TrodAll enc P W 0 (fun _ => true) true ts vs ds ps -> DataW.TrodAll enc P W' 0 (fun b => decide (b < W.heap.size)) true ts vs ds ps
 | [], vs, ds, ps, _, _, h => by
   obtain ⟨rfl, rfl, rfl⟩ := trodAll_nil h
   exact trodAll_mk0
 | t :: ts, vs, ds, ps, ht, hlt, h => by
   obtain ⟨v, vs', d, ds', p, q, rfl, rfl, rfl, h0, h1⟩ := trodAll_cons h
   exact trodAll_cons_mk (Below.trod hl (ht t (by simp)).1 (ht t (by simp)).2 h0 hb (fun x hx => hlt x (by simp [hx])))
     (trodAll_later hl hb (fun u hu => ht u (by simp [hu])) (fun x hx => hlt x (by simp [hx])) h1)
theorem law_post {H : Type} {enc : TypeId × Value -> H} {P : Program} {f : Func} {s : ChangeSpec} {T : TypeId} {W W' : World} {args : Array Value} {ds gs : List (DataW H)} {before : List MemPlace} (hl : laidOutB P = true) (hT : P.underlying T = some .bool)
   (hr : f.resultTypes = #[T]) (ht : ∀ t ∈ f.params.toList, P.readableRec t = true /\ t < P.types.size) (hv : s.vars = []) (hfn : s.fn H (ds ++ gs) = { results := [.lit (.bool true)], args := ds })
   (hW : DataW.Whole enc P f.params.toList s.vars false W args.toList ds gs before) (hb : Below W.heap.size W W') : s.post enc P f false true false false W args (.bool true) W' := by
 have hlt := hW.lt
 have hW' := hW
 obtain ⟨p, q, hA, hV, rfl, _, _⟩ := hW'
 rw [hv] at hV
 obtain ⟨rfl, rfl⟩ := trodVars_none hV
 have hA2 := trodAll_later hl hb ht (fun x hx => by simpa using hlt x (by simp [hx])) hA
 refine ⟨ds, [], _, [], p, [], hW, ?_, ?_, ?_, hb.frame _, fun h => by cases h⟩
 · rw [hfn, hr]
   exact trodAll_mk1 (shut_bool hT _)
 · rw [hfn]
   exact hA2
 · rw [hfn, hv]
   exact rfl
end Go.Proofs.YtmnigckpejcaeaaGreatDoor
namespace Go.Proofs.YtmnigckpejcaeaaGreatDoor
theorem bulk_of {H : Type} {l : List (DataW H)} (hk : Rows.uptoSmall H l = true) : Rows.uptoBulkAll l <= 1048576 := of_decide_eq_true hk
end Go.Proofs.YtmnigckpejcaeaaGreatDoor
namespace Go.Proofs.YtmnigckpejcaeaaGreatDoor
open Go.ChangeShapes Go.WideShapes Go.ChangeAt Go.RowKit Go.Deep
set_option maxRecDepth 100000
theorem cellsTerm4 : Tryz.prog.cellsOf 54 = 4 := by kernel_rfl
theorem cellsQuad16 : Tryz.prog.cellsOf 56 = 16 := by kernel_rfl
def termD {H : Type} (t : TermL) : DataW H := .agg [.lit (.int .i64 t.kind), .lit (.string t.text), .lit (.string t.type), .lit (.string t.lang)]
def quadD {H : Type} (q : QuadL) : DataW H := .agg [termD q.s, termD q.p, termD q.o, termD q.g]
section
variable {H : Type} {enc : TypeId × Value -> H} {W : World}
theorem four {α : Type} {l : List α} (h : l.length = 4) : ∃ a b c d, l = [a, b, c, d] := by
 match l, h with
 | [a, b, c, d], _ => exact ⟨a, b, c, d, rfl⟩
theorem strq_of_trod {fuel : Nat} {c : Value} {x : DataW H × List MemPlace} (h : DataW.trod enc Tryz.prog W 0 (fun _ => true) true fuel 9 [c] = some x) : ∃ l, c = .string (B l) /\ x.1 = .lit (.string l) := by
 obtain ⟨s, hc, hx, _⟩ := DataW.trod_string Tryz.underlying9 h
 cases hc
 subst hx
 exact ⟨s.data.toList, by rw [B_of], rfl⟩
theorem int_of_trod {fuel : Nat} {c : Value} {x : DataW H × List MemPlace} (h : DataW.trod enc Tryz.prog W 0 (fun _ => true) true fuel 3 [c] = some x) : ∃ n, c = .int .i64 n /\ x.1 = .lit (.int .i64 n) := by
 obtain ⟨n, hc, hx, _⟩ := DataW.trod_int Tryz.underlying3 h
 cases hc
 subst hx
 exact ⟨n, rfl, rfl⟩
theorem term_of_trod {fuel : Nat} {cs : List Value} {x : DataW H × List MemPlace} (h : DataW.trod enc Tryz.prog W 0 (fun _ => true) true fuel 54 cs = some x) : ∃ t, cs = termC t /\ x.1 = termD t := by
 obtain ⟨xs, n, _, hx, hcl, hlen, hff⟩ := DataW.trod_struct Tryz.underlying54 h
 rw [cellsTerm4] at hcl
 obtain ⟨v0, v1, v2, v3, rfl⟩ := four hcl
 obtain ⟨y0, y1, y2, y3, rfl⟩ := four (l := xs) hlen
 have e0 := hff 0 _ rfl
 have e1 := hff 1 _ rfl
 have e2 := hff 2 _ rfl
 have e3 := hff 3 _ rfl
 simp only [List.getElem?_cons_zero, List.getElem?_cons_succ] at e0 e1 e2 e3
 obtain ⟨l0, rfl, x0⟩ := int_of_trod e0
 obtain ⟨l1, rfl, x1⟩ := strq_of_trod e1
 obtain ⟨l2, rfl, x2⟩ := strq_of_trod e2
 obtain ⟨l3, rfl, x3⟩ := strq_of_trod e3
 refine ⟨⟨l0, l1, l2, l3⟩, rfl, ?_⟩
 have hd := congrArg Prod.fst hx
 simp only [List.map_cons, List.map_nil, x0, x1, x2, x3] at hd
 exact hd
theorem quad_of_trod {fuel : Nat} {cs : List Value} {x : DataW H × List MemPlace} (h : DataW.trod enc Tryz.prog W 0 (fun _ => true) true fuel 56 cs = some x) : ∃ q, cs = quadC q /\ x.1 = quadD q := by
 obtain ⟨xs, n, _, hx, hcl, hlen, hff⟩ := DataW.trod_struct Tryz.underlying56 h
 rw [cellsQuad16] at hcl
 obtain ⟨y0, y1, y2, y3, rfl⟩ := four (l := xs) hlen
 have e0 := hff 0 _ rfl
 have e1 := hff 1 _ rfl
 have e2 := hff 2 _ rfl
 have e3 := hff 3 _ rfl
 simp only [List.getElem?_cons_zero, List.getElem?_cons_succ] at e0 e1 e2 e3
 obtain ⟨t0, h0, x0⟩ := term_of_trod e0
 obtain ⟨t1, h1, x1⟩ := term_of_trod e1
 obtain ⟨t2, h2, x2⟩ := term_of_trod e2
 obtain ⟨t3, h3, x3⟩ := term_of_trod e3
 refine ⟨⟨t0, t1, t2, t3⟩, ?_, ?_⟩
 · have s1 : cs = (cs.drop 0).take 4 ++ ((cs.drop 4).take 4 ++ ((cs.drop 8).take 4 ++ (cs.drop 12).take 4)) := by
     have hs : ∀ (k : Nat), cs.drop k = (cs.drop k).take 4 ++ cs.drop (k + 4) := fun k => by
       rw [<- List.drop_drop]
       exact (List.take_append_drop 4 (cs.drop k)).symm
     have h16 : (cs.drop 12).take 4 = cs.drop 12 := List.take_of_length_le (by simp; omega)
     rw [h16, <- hs 8, <- hs 4, <- hs 0]
     rfl
   rw [s1]
   exact (congr (congrArg _ h0) (congr (congrArg _ h1) (congr (congrArg _ h2) h3)))
 · have hd := congrArg Prod.fst hx
   simp only [List.map_cons, List.map_nil, x0, x1, x2, x3] at hd
   exact hd
def QuadsD (d : DataW H) (l : List QuadL) : Prop := (d = .nil /\ l = []) \/ ∃ rest, d = .slice (l.map quadD) rest
theorem quads_of_trod {fuel : Nat} {cs : List Value} {x : DataW H × List MemPlace} (h : DataW.trod enc Tryz.prog W 0 (fun _ => true) true fuel 22 cs = some x) :
   ∃ (v : Value) (l : List QuadL), cs = [v] /\ QView W v l /\ QuadsD x.1 l := by
 rcases open_slice Tryz.underlying22 h with ⟨rfl, rfl⟩ | ⟨a, len, cap, m, n, D, Pl, rfl, _, hl, _, hm, rfl, hi⟩
 · exact ⟨_, [], rfl, ⟨none, 0, rfl, Nat.le_refl _, QAt.nil _ _⟩, .inl ⟨rfl, rfl⟩⟩
 · have hlm : len <= m := by rw [hm]; split <;> omega
   have key : ∀ i, ∃ q : QuadL, i < m -> (∃ cs', W.cells? 0 (a.add (i * 16)) 16 = some cs' /\ cs' = quadC q) /\ D i = quadD q := fun i => by
     by_cases hi' : i < m
     · obtain ⟨cs', h1, h2⟩ := hi i hi'
       rw [cellsQuad16] at h1
       obtain ⟨q, h3, h4⟩ := quad_of_trod h2
       exact ⟨q, fun _ => ⟨⟨cs', h1, h3⟩, h4⟩⟩
     · exact ⟨⟨noTerm, noTerm, noTerm, noTerm⟩, fun h => absurd h hi'⟩
   obtain ⟨Q, hQ⟩ := Classical.axiomOfChoice key
   refine ⟨_, (List.range len).map Q, rfl, ?_, .inr ⟨((List.range (m - len)).map fun j => D (len + j)), ?_⟩⟩
   · have hlen : ((List.range len).map Q).length = len := by simp
     refine ⟨some a, cap, by rw [hlen], by rw [hlen]; exact hl, ?_⟩
     intro j hj
     rw [quadsC_len, hlen] at hj
     have hk : j / 16 < len := by omega
     obtain ⟨⟨cs', h1, h2⟩, _⟩ := hQ (j / 16) (by omega)
     subst h2
     obtain ⟨_, _, hat⟩ := World.cells?_some h1
     have hc := hat (j % 16) (Nat.mod_lt _ (by decide))
     obtain ⟨b, off, spot⟩ := a
     have hcq : ∃ x, (quadC (Q (j / 16)))[j % 16]? = some x := ⟨_, List.getElem?_eq_getElem (by rw [quadC_len]; exact Nat.mod_lt _ (by decide))⟩
     obtain ⟨x, hx⟩ := hcq
     rw [hx, Go.Deep.add_add, show j / 16 * 16 + j % 16 = j by omega] at hc
     have hspot : spot = none := by
       obtain ⟨⟨cs0, z1, z2⟩, _⟩ := hQ 0 (by omega)
       subst z2
       obtain ⟨_, _, zat⟩ := World.cells?_some z1
       have z := zat 0 (by decide)
       simpa [Addr.add] using World.cell?_spot (z.trans (show (quadC (Q 0))[0]? = some _ from rfl))
     subst hspot
     refine ⟨b, off, rfl, ?_⟩
     rw [<- addO, hc, <- hx]
     have hg := quadsC_get ((List.range len).map Q) (j / 16) (by rw [hlen]; exact hk) (j % 16) (Nat.mod_lt _ (by decide))
     rw [show j / 16 * 16 + j % 16 = j by omega] at hg
     rw [List.getElem_map, List.getElem_range] at hg
     rw [<- hg, List.getElem?_eq_getElem]
   · have e : (List.range len).map D = ((List.range len).map Q).map quadD := by
       rw [List.map_map]
       refine List.map_congr_left fun i hi => ?_
       rw [(hQ i (by have := List.mem_range.1 hi; omega)).2]
       rfl
     rw [<- e]
theorem open_quads {b0 : Nat} {v : Value} {d : DataW H} {ps : List MemPlace} (hv : Value.okWide Tryz.prog W .any b0 22 v) (h : DataW.Trod enc Tryz.prog W 0 (fun _ => true) true 22 v d ps) :
   ∃ l, QView W v l /\ QuadsD d l := by
 obtain ⟨a0, len, cap, rfl⟩ := okWide_slice Tryz.underlying22 hv
 obtain ⟨fuel, hf⟩ := h
 obtain ⟨v, l, hc, hq, hd⟩ := quads_of_trod hf
 simp [Value.cells] at hc
 subst hc
 exact ⟨l, hq, hd⟩
end
theorem bulk_quad {H : Type} (q : QuadL) : ∀ t, (t = q.s \/ t = q.p \/ t = q.o \/ t = q.g) -> t.text.length + t.type.length + t.lang.length + 21 <= Rows.uptoBulk (quadD (H := H) q) := by
 intro t ht
 simp only [quadD, termD, Rows.uptoBulk, Rows.uptoBulkAll]
 rcases ht with rfl | rfl | rfl | rfl <;> omega
theorem bulk_quads {H : Type} (l : List QuadL) : l.length * 21 <= Rows.uptoBulkAll (l.map (quadD (H := H))) /\ ∀ q ∈ l, Rows.uptoBulk (quadD (H := H) q) <= Rows.uptoBulkAll (l.map (quadD (H := H))) := by
 induction l with
 | nil => simp [Rows.uptoBulkAll]
 | cons x r ih =>
   rw [List.map_cons, Rows.uptoBulkAll]
   have hx := bulk_quad (H := H) x x.s (.inl rfl)
   refine ⟨by rw [List.length_cons]; omega, fun q hq => ?_⟩
   rcases List.mem_cons.1 hq with rfl | hq
   · omega
   · have := ih.2 q hq; omega
theorem bulk_quadsD {H : Type} {d : DataW H} {l : List QuadL} (h : QuadsD d l) : l.length * 21 <= Rows.uptoBulk d /\ ∀ q ∈ l, ∀ t, (t = q.s \/ t = q.p \/ t = q.o \/ t = q.g) -> t.text.length + t.type.length + t.lang.length <= Rows.uptoBulk d := by
 rcases h with ⟨rfl, rfl⟩ | ⟨rest, rfl⟩
 · simp
 · obtain ⟨h1, h2⟩ := bulk_quads (H := H) l
   simp only [Rows.uptoBulk]
   refine ⟨by omega, fun q hq t ht => ?_⟩
   have := h2 q hq
   have := bulk_quad (H := H) q t ht
   omega
end Go.Proofs.YtmnigckpejcaeaaGreatDoor
namespace Go.Proofs.YtmnigckpejcaeaaGreatDoor
open Go.RowKit
theorem maxAt_of_shaped {w : World} (h : w.ShapedOpen Tryz.prog) : MaxAt w := Tryz.laysM146.s1_3 w h
end Go.Proofs.YtmnigckpejcaeaaGreatDoor
