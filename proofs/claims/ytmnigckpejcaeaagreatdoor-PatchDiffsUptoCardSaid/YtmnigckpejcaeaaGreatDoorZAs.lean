/-
  A quad as a map's key: what it reads as; the set of some quads. By an AI agent.
-/
import Derived.Maps.OwnSet
import Derived.Maps.Views
import Derived.DeepKeys4
import Derived.Test.YtmnigckpejcaeaaGreatDoorZSort0
import Derived.Test.YtmnigckpejcaeaaGreatDoorZLoadQ
import Derived.Test.YtmnigckpejcaeaaGreatDoorProg
import Derived.Test.YtmnigckpejcaeaaGreatDoorZQuad0
import Derived.WalkKit
import Derived.LaidEql
import Derived.Stop.Asserts
import Derived.RowKitTokens
import Derived.Test.YtmnigckpejcaeaaGreatDoorZRdW0
import Derived.RangeFuncBox
import Derived.Maps.OwnIn
import Derived.Test.YtmnigckpejcaeaaGreatDoorZEol0
import Derived.Test.YtmnigckpejcaeaaGreatDoorZCmpG
import Derived.Test.YtmnigckpejcaeaaGreatDoorZEscBack0
import Derived.Test.YtmnigckpejcaeaaGreatDoorZRdW1
import Derived.Laws.EntriesVeiled
namespace Go.Proofs.YtmnigckpejcaeaaGreatDoor
open Go.RowKit
set_option maxRecDepth 100000
def litsT (t : TermL) : List Lit := [.int .i64 t.kind, .string t.text, .string t.type, .string t.lang]
def litsQ (q : QuadL) : List Lit := litsT q.s ++ (litsT q.p ++ (litsT q.o ++ litsT q.g))
def keyQ (q : QuadL) : Lit := .string (keyBytes (litsQ q))
theorem kind_wf {k : Int} (h : 0 <= k /\ k <= 3) : (Lit.int .i64 k).wf = true := by
 simp [Lit.wf, IntKind.min, IntKind.max, IntKind.signed, IntKind.bits]
 omega
theorem litsT_wf {t : TermL} (h : WfT t) : ∀ a ∈ litsT t, a.keyWf := by
 intro a ha
 unfold litsT at ha
 simp at ha
 obtain ⟨h1, h2, h3, h4⟩ := h
 rcases ha with rfl | rfl | rfl | rfl
 · exact kind_wf h1
 · show t.text.length <= maxLen; unfold maxLen; omega
 · show t.type.length <= maxLen; unfold maxLen; omega
 · show t.lang.length <= maxLen; unfold maxLen; omega
theorem litsQ_wf {q : QuadL} (h : WfQ q) : ∀ a ∈ litsQ q, a.keyWf := by
 intro a ha
 unfold litsQ at ha
 simp only [List.mem_append] at ha
 obtain ⟨h1, h2, h3, h4⟩ := h
 rcases ha with ha | ha | ha | ha
 · exact litsT_wf h1 a ha
 · exact litsT_wf h2 a ha
 · exact litsT_wf h3 a ha
 · exact litsT_wf h4 a ha
theorem litsT_inj {a b : TermL} (h : litsT a = litsT b) : a = b := by
 obtain ⟨k, x, y, z⟩ := a
 obtain ⟨k', x', y', z'⟩ := b
 simp [litsT] at h
 simp [h]
theorem litsQ_inj {a b : QuadL} (h : litsQ a = litsQ b) : a = b := by
 obtain ⟨s, p, o, g⟩ := a
 obtain ⟨s', p', o', g'⟩ := b
 have e := h
 unfold litsQ at e
 obtain ⟨e1, e⟩ := List.append_inj e rfl
 obtain ⟨e2, e⟩ := List.append_inj e rfl
 obtain ⟨e3, e4⟩ := List.append_inj e rfl
 simp only at e1 e2 e3 e4
 rw [litsT_inj e1, litsT_inj e2, litsT_inj e3, litsT_inj e4]
theorem keyQ_inj {a b : QuadL} (ha : WfQ a) (hb : WfQ b) (h : keyQ a = keyQ b) : a = b := by
 unfold keyQ at h
 exact litsQ_inj (keyBytes_inj (by simp [litsQ, litsT, Alike, Lit.sameKind]) (litsQ_wf ha) (litsQ_wf hb) (by injection h))
theorem lawQ : Go.Maps.Keyed Tryz.prog 56 := Go.Maps.Keyed.of_law (deep_law_laid (by kernel_rfl) (m := 3) (by decide) (of_decide_eq_true (by kernel_rfl)) (by kernel_rfl) (by kernel_rfl))
theorem cellsOf_t : Tryz.prog.cellsOf 54 = 4 := by kernel_rfl
theorem cellsOf_q : Tryz.prog.cellsOf 56 = 16 := by kernel_rfl
theorem cellsOf_i : Tryz.prog.cellsOf 3 = 1 := by kernel_rfl
theorem cellsOf_s : Tryz.prog.cellsOf 9 = 1 := by kernel_rfl
theorem keyT_run (d : Nat) {t : TermL} (h : WfT t) : Tryz.prog.keyLits (d + 2) 54 [.int .i64 t.kind, .string (B t.text), .string (B t.type), .string (B t.lang)] = some (litsT t) := by
 obtain ⟨h1, h2, h3, h4⟩ := h
 have w := kind_wf h1
 have l2 : (B t.text).size <= maxLen := by rw [B_size]; unfold maxLen; omega
 have l3 : (B t.type).size <= maxLen := by rw [B_size]; unfold maxLen; omega
 have l4 : (B t.lang).size <= maxLen := by rw [B_size]; unfold maxLen; omega
 simp [Program.keyLits, Tryz.underlying54, Tryz.underlying3, Tryz.underlying9, cellsOf_t, cellsOf_i, cellsOf_s, w, l2, l3, l4, litsT]
 exact ⟨rfl, rfl, rfl⟩
theorem keyOf_q {q : QuadL} (h : WfQ q) : keyOf Tryz.prog 56 (qv q) = some (keyQ q) := by
 obtain ⟨h1, h2, h3, h4⟩ := h
 unfold keyOf
 simp only [Tryz.underlying56]
 have kt : Tryz.prog.keyType 56 = true := by kernel_rfl
 have fm : Value.formed Tryz.prog 56 (qv q) = true := by simp [Value.formed, Tryz.underlying56, cellsOf_q]
 rw [kt, fm]
 obtain ⟨d, hd⟩ : ∃ d, Tryz.prog.types.size + 1 = d + 3 := ⟨Tryz.prog.types.size - 2, by
   have : 2 <= Tryz.prog.types.size := of_decide_eq_true (by kernel_rfl)
   omega⟩
 rw [hd, if_pos (show (true && true) = true from rfl)]
 have e : Tryz.prog.keyLits (d + 3) 56 (qv q).cells.toList = some (litsQ q) := by
   unfold Program.keyLits
   simp [Tryz.underlying56, cellsOf_q, cellsOf_t, Value.cells, keyT_run d h1, keyT_run d h2, keyT_run d h3, keyT_run d h4, litsQ]
 rw [e]
 rfl
theorem isKey_q (q : QuadL) : WideAt.IsKeyLit (keyQ q) := by
 unfold keyQ
 simp [WideAt.IsKeyLit]
noncomputable def setD (a : List QuadL) : DataW Unit := Go.Maps.setOf (.agg []) (a.map keyQ)
theorem setD_snoc (a : List QuadL) (q : QuadL) : setD (a ++ [q]) = (setD a).put (keyQ q) (.agg []) := by unfold setD; rw [List.map_append]; exact Go.Maps.setOf_snoc _ _ _
theorem has_setD {a : List QuadL} {q : QuadL} (ha : ∀ x ∈ a, WfQ x) (hq : WfQ q) : Go.Maps.has (setD a) (keyQ q) = decide (q ∈ a) := by
 unfold setD
 rw [Go.Maps.has_setOf _ _ _ (fun x hx => by obtain ⟨y, _, rfl⟩ := List.mem_map.1 hx; exact isKey_q y)]
 rw [Bool.eq_iff_iff, List.any_eq_true, decide_eq_true_eq]
 constructor
 · rintro ⟨x, hx, hs⟩
   obtain ⟨y, hy, rfl⟩ := List.mem_map.1 hx
   have := WideAt.sameKey_eq hs
   rw [<- keyQ_inj (ha y hy) hq this]
   exact hy
 · intro hm
   exact ⟨keyQ q, List.mem_map.2 ⟨q, hm, rfl⟩, WideAt.sameKey_self (isKey_q q)⟩
end Go.Proofs.YtmnigckpejcaeaaGreatDoor
namespace Go.Proofs.YtmnigckpejcaeaaGreatDoor
open Go.RowKit Go.Extern.Stop Go.Stop Go.Extern
set_option maxRecDepth 100000
theorem as_nil (t : Value) (w : World) :
   Calls Tryz.prog 59 #[.nilIface, t] w fun e w' => e = .returned (.bool false) /\ w' = w := by
 go_enter Tryz.func59, Tryz.ntmps59
 go_wp2
 go_ret
 exact ⟨rfl, rfl⟩
theorem methodKind (h : Value) (w : World) : (Go.method (Tryz.prog.types.size + 100) 186 (.agg #[h]) "Kind").run Tryz.prog w = .ok (283, h) w := by kernel_rfl
theorem methodElem (h : Value) (w : World) : (Go.method (Tryz.prog.types.size + 100) 186 (.agg #[h]) "Elem").run Tryz.prog w = .ok (296, .agg #[h]) w := by kernel_rfl
theorem methodImplements (h : Value) (w : World) : (Go.method (Tryz.prog.types.size + 100) 186 (.agg #[h]) "Implements").run Tryz.prog w = .ok (297, .agg #[h]) w := by kernel_rfl
theorem methodAssignableTo (h : Value) (w : World) : (Go.method (Tryz.prog.types.size + 100) 186 (.agg #[h]) "AssignableTo").run Tryz.prog w = .ok (294, .agg #[h]) w := by kernel_rfl
theorem typesSize : Tryz.prog.types.size + 100 = 432 := by kernel_rfl
theorem rlm (z : Sem Value) (f : TypeId -> Addr -> Nat -> Nat -> Sem Value) (v : Value) :
   ReflectliteValue.method z f #[v] = (do match <- ReflectliteValue.parts v with | none => z | some (t, a, fl) => f t a fl (fl % 32)) := rfl
theorem rls (v x : Value) : ReflectliteValue.set #[v, x] = (do
   let (some (dst, a, fl), some (src, b, _)) := (<- ReflectliteValue.parts v, <- ReflectliteValue.parts x)
     | unsupported (.noEntry "extern/(internal/reflectlite.Value).Set.zeroValue")
   if fl / ReflectliteValue.flagAddr % 2 == 0 then unsupported (.noEntry "extern/(internal/reflectlite.Value).Set.unaddressable")
   let val <- loadVar src b
   if <- Rtype.directlyAssignable dst src then storeVar dst a val
   else if <- Rtype.implements dst src then
     if (<- Rtype.kind src) == 20 then
       match val with
       | .nilIface => unsupported (.noEntry "extern/reflectlite: a nil value of one interface type handed on as a value of another")
       | _ => storeVar dst a val
     else storeVar dst a (.iface src val)
   else panicString ("reflectlite.Set: value of type " ++ (<- Rtype.spelt src) ++ " is not assignable to type " ++ (<- Rtype.spelt dst))
   pure (.tuple #[])) := rfl
theorem valueOfTB (t : Addr) (w : World) : (ReflectliteValue.unpack (.iface 113 (.pointer (some t)))).run Tryz.prog w
   = .ok (.agg #[.pointer (some ⟨5, 113, none⟩), .pointer (some ⟨w.heap.size, 0, none⟩), .int .u64 150]) (w.alloc (.cells #[.pointer (some t)] 113)) := by kernel_rfl
theorem typeTB (a : Addr) (w : World) : (ReflectliteValue.methodAny (ReflectliteValue.valueError "reflectlite.Value.Type" 0) (fun t _ _ _ => ReflectliteType.toType t) #[.agg #[.pointer (some ⟨5, 113, none⟩), .pointer (some a), .int .u64 150]]).run Tryz.prog w
   = .ok (.iface 186 (.agg #[.pointer (some ⟨5, 113, none⟩)])) w := by kernel_rfl
theorem kindTB (w : World) : ((ReflectliteType.abiMethod fun t => (fun a : Nat => Value.int IntKind.u8 (a : Int)) <$> Rtype.kind t) #[.pointer (some ⟨5, 113, none⟩)]).run Tryz.prog w = .ok (.int .u8 22) w := by kernel_rfl
theorem kindEB (w : World) : ((ReflectliteType.abiMethod fun t => (fun a : Nat => Value.int IntKind.u8 (a : Int)) <$> Rtype.kind t) #[.pointer (some ⟨5, 77, none⟩)]).run Tryz.prog w = .ok (.int .u8 22) w := by kernel_rfl
theorem partsTB (a : Addr) (w : World) : (ReflectliteValue.parts (.agg #[.pointer (some ⟨5, 113, none⟩), .pointer (some a), .int .u64 150])).run Tryz.prog w = .ok (some (113, a, 150)) w := by kernel_rfl
theorem isNilTB (a p : Addr) (W : World) (ha : W.cell? a = some (.pointer (some p))) :
   (ReflectliteValue.method (ReflectliteValue.valueError "reflectlite.Value.IsNil" 0) ReflectliteValue.isNil #[.agg #[.pointer (some ⟨5, 113, none⟩), .pointer (some a), .int .u64 150]]).run Tryz.prog W = .ok (.bool false) W := by
 rw [rlm]
 simp only [Sem.run_bind, partsTB, Result.andThen]
 simp [ReflectliteValue.isNil, loadVar, isAgg, underlying, Tryz.underlying113, ha, Result.andThen]
theorem elemTB (w : World) : (ReflectliteType.method ReflectliteType.elem #[.agg #[.pointer (some ⟨5, 113, none⟩)]]).run Tryz.prog w = .ok (.iface 186 (.agg #[.pointer (some ⟨5, 77, none⟩)])) w := by kernel_rfl
theorem implementsEB (w : World) : (ReflectliteType.relation "Implements" ReflectliteType.implements_ #[.agg #[.pointer (some ⟨5, 77, none⟩)], .iface 186 (.agg #[.pointer (some ⟨5, 34, none⟩)])]).run Tryz.prog w = .ok (.bool true) w := by kernel_rfl
theorem typeOfEB (v : Value) (w : World) : (ReflectliteType.typeOf #[.iface 77 v]).run Tryz.prog w = .ok (.iface 186 (.agg #[.pointer (some ⟨5, 77, none⟩)])) w := by kernel_rfl
theorem assignableEB (w : World) : (ReflectliteType.relation "AssignableTo" ReflectliteType.assignableTo #[.agg #[.pointer (some ⟨5, 77, none⟩)], .iface 186 (.agg #[.pointer (some ⟨5, 77, none⟩)])]).run Tryz.prog w = .ok (.bool true) w := by kernel_rfl
theorem valueOfEB (e : Addr) (w : World) : (ReflectliteValue.unpack (.iface 77 (.pointer (some e)))).run Tryz.prog w
   = .ok (.agg #[.pointer (some ⟨5, 77, none⟩), .pointer (some ⟨w.heap.size, 0, none⟩), .int .u64 150]) (w.alloc (.cells #[(.pointer (some e))] 77)) := by kernel_rfl
theorem elemOfTB (w : World) : (Rtype.elem? 113).run Tryz.prog w = .ok (some 77) w := by kernel_rfl
theorem mkEB (p : Addr) (w : World) : (ReflectliteValue.mk 77 p ReflectliteValue.flagAddr).run Tryz.prog w = .ok (.agg #[.pointer (some ⟨5, 77, none⟩), .pointer (some p), .int .u64 406]) w := by kernel_rfl
theorem elemVTB (a p : Addr) (W : World) (ha : W.cell? a = some (.pointer (some p))) :
   (ReflectliteValue.method (ReflectliteValue.valueError "reflectlite.Value.Elem" 0) ReflectliteValue.elem #[.agg #[.pointer (some ⟨5, 113, none⟩), .pointer (some a), .int .u64 150]]).run Tryz.prog W
     = .ok (.agg #[.pointer (some ⟨5, 77, none⟩), .pointer (some p), .int .u64 406]) W := by
 rw [rlm]
 simp only [Sem.run_bind, partsTB, Result.andThen]
 simp [ReflectliteValue.elem, loadVar, isAgg, underlying, Tryz.underlying113, ha, Result.andThen, elemOfTB, mkEB]
theorem partsEaB (a : Addr) (w : World) : (ReflectliteValue.parts (.agg #[.pointer (some ⟨5, 77, none⟩), .pointer (some a), .int .u64 406])).run Tryz.prog w = .ok (some (77, a, 406)) w := by kernel_rfl
theorem partsEB (a : Addr) (w : World) : (ReflectliteValue.parts (.agg #[.pointer (some ⟨5, 77, none⟩), .pointer (some a), .int .u64 150])).run Tryz.prog w = .ok (some (77, a, 150)) w := by kernel_rfl
theorem directEB (w : World) : (Rtype.directlyAssignable 77 77).run Tryz.prog w = .ok true w := by kernel_rfl
theorem setEB (ta b : Addr) (e : Addr) (old : Value) (W : World) (hb : W.cell? b = some (.pointer (some e))) (ht : W.cell? ta = some old) (hf : W.frozen? ta = false) :
   (ReflectliteValue.set #[.agg #[.pointer (some ⟨5, 77, none⟩), .pointer (some ta), .int .u64 406], .agg #[.pointer (some ⟨5, 77, none⟩), .pointer (some b), .int .u64 150]]).run Tryz.prog W
     = .ok (.tuple #[]) (W.setCell ta (.pointer (some e))) := by
 rw [rls]
 simp only [Sem.run_bind, partsEaB, partsEB, Result.andThen]
 simp [ReflectliteValue.flagAddr, loadVar, isAgg, underlying, Tryz.underlying77, hb, Result.andThen, directEB, storeVar, Value.cells, storeCells, Addr.add]
 rw [run_store Tryz.prog W ta _ _ (by rfl)]
 simp [ht, hf]
set_option maxHeartbeats 4000000 in
theorem as_hitB (e : Addr) (t : Addr) (old : Value) (w : World) (hg : w.cell? ⟨1, 0, none⟩ = some (.iface 186 (.agg #[.pointer (some ⟨5, 34, none⟩)]))) (ht0 : w.cell? t = some old) (hf0 : w.frozen? t = false) :
   Calls Tryz.prog 59 #[.iface 77 (.pointer (some e)), .iface 113 (.pointer (some t))] w fun ev w' => ev = .returned (.bool true) /\ w' = ((((w.alloc (.cells #[.pointer (some t)] 113)).alloc (.cells #[.pointer (some ⟨5, 113, none⟩), .pointer (some ⟨w.heap.size, 0, none⟩), .int .u64 150] 152)).alloc (.cells #[.pointer (some ⟨5, 113, none⟩), .pointer (some ⟨w.heap.size, 0, none⟩), .int .u64 150] 152)).alloc (.cells #[(.pointer (some e))] 77)).setCell t (.pointer (some e)) := by
 have h6 := @run_callFunc_extern Tryz.prog 87 _ (fun args => ReflectliteValue.unpack (args.getD 0 (.tuple #[]))) Tryz.func87 (by kernel_rfl) (by kernel_rfl) (by kernel_rfl) (by kernel_rfl)
 have h7 := @run_callFunc_extern Tryz.prog 88 _ (ReflectliteValue.methodAny (ReflectliteValue.valueError "reflectlite.Value.Type" 0) (fun t _ _ _ => ReflectliteType.toType t)) Tryz.func88 (by kernel_rfl) (by kernel_rfl) (by kernel_rfl) (by kernel_rfl)
 have h8 := @run_callFunc_extern Tryz.prog 89 _ (ReflectliteValue.method (ReflectliteValue.valueError "reflectlite.Value.IsNil" 0) ReflectliteValue.isNil) Tryz.func89 (by kernel_rfl) (by kernel_rfl) (by kernel_rfl) (by kernel_rfl)
 have h27 := @run_callFunc_extern Tryz.prog 283 _ (ReflectliteType.abiMethod fun t => do pure (.int .u8 (<- Rtype.kind t))) Tryz.func283 (by kernel_rfl) (by kernel_rfl) (by kernel_rfl) (by kernel_rfl)
 have h37 := @run_callFunc_extern Tryz.prog 296 _ (ReflectliteType.method ReflectliteType.elem) Tryz.func296 (by kernel_rfl) (by kernel_rfl) (by kernel_rfl) (by kernel_rfl)
 have h38 := @run_callFunc_extern Tryz.prog 297 _ (ReflectliteType.relation "Implements" ReflectliteType.implements_) Tryz.func297 (by kernel_rfl) (by kernel_rfl) (by kernel_rfl) (by kernel_rfl)
 have h10 := @run_callFunc_extern Tryz.prog 121 _ ReflectliteType.typeOf Tryz.func121 (by kernel_rfl) (by kernel_rfl) (by kernel_rfl) (by kernel_rfl)
 have h35 := @run_callFunc_extern Tryz.prog 294 _ (ReflectliteType.relation "AssignableTo" ReflectliteType.assignableTo) Tryz.func294 (by kernel_rfl) (by kernel_rfl) (by kernel_rfl) (by kernel_rfl)
 have h11 := @run_callFunc_extern Tryz.prog 122 _ (ReflectliteValue.method (ReflectliteValue.valueError "reflectlite.Value.Elem" 0) ReflectliteValue.elem) Tryz.func122 (by kernel_rfl) (by kernel_rfl) (by kernel_rfl) (by kernel_rfl)
 have h12 := @run_callFunc_extern Tryz.prog 123 _ ReflectliteValue.set Tryz.func123 (by kernel_rfl) (by kernel_rfl) (by kernel_rfl) (by kernel_rfl)
 have tO := typeOfEB
 have mA := methodAssignableTo
 have mK := methodKind
 have mE := methodElem
 have mI := methodImplements
 rw [typesSize] at mA mK mE mI
 have aE := assignableEB
 have vE := valueOfEB
 have f6 := valueOfTB
 have f7 := typeTB
 have kT := kindTB
 have kE := kindEB
 have eT := elemTB
 have iE := implementsEB
 have n8 := isNilTB ⟨w.heap.size, 0, none⟩ t ((w.alloc (.cells #[.pointer (some t)] 113)).alloc (.cells #[.pointer (some ⟨5, 113, none⟩), .pointer (some ⟨w.heap.size, 0, none⟩), .int .u64 150] 152)) (by simp)
 have hlt : 1 < w.heap.size := World.block_lt_of_cell? _ _ hg
 have hg2 : ((w.alloc (.cells #[.pointer (some t)] 113)).alloc (.cells #[.pointer (some ⟨5, 113, none⟩), .pointer (some ⟨w.heap.size, 0, none⟩), .int .u64 150] 152)).cell? ⟨1, 0, none⟩ = some (.iface 186 (.agg #[.pointer (some ⟨5, 34, none⟩)])) := by
   rw [World.cell?_alloc_lt _ _ ⟨1, 0, none⟩ (by simp; omega), World.cell?_alloc_lt _ _ ⟨1, 0, none⟩ hlt]; exact hg
 have htl : t.block < w.heap.size := by
   rcases Nat.lt_or_ge t.block w.heap.size with h | h
   · exact h
   · simp [World.cell?, Array.getElem?_eq_none h] at ht0
 have el := elemVTB ⟨w.heap.size, 0, none⟩ t (((w.alloc (.cells #[.pointer (some t)] 113)).alloc (.cells #[.pointer (some ⟨5, 113, none⟩), .pointer (some ⟨w.heap.size, 0, none⟩), .int .u64 150] 152)).alloc (.cells #[.pointer (some ⟨5, 113, none⟩), .pointer (some ⟨w.heap.size, 0, none⟩), .int .u64 150] 152)) (by rw [World.cell?_alloc_lt _ _ ⟨w.heap.size, 0, none⟩ (by simp; omega)]; simp)
 have st := setEB t ⟨w.heap.size + 1 + 1 + 1, 0, none⟩ e old ((((w.alloc (.cells #[.pointer (some t)] 113)).alloc (.cells #[.pointer (some ⟨5, 113, none⟩), .pointer (some ⟨w.heap.size, 0, none⟩), .int .u64 150] 152)).alloc (.cells #[.pointer (some ⟨5, 113, none⟩), .pointer (some ⟨w.heap.size, 0, none⟩), .int .u64 150] 152)).alloc (.cells #[(.pointer (some e))] 77))
   (by rw [World.cell?_alloc_at _ _ _ _ (by simp)]; rfl)
   (by rw [World.cell?_alloc_lt _ _ t (by simp; omega), World.cell?_alloc_lt _ _ t (by simp; omega), World.cell?_alloc_lt _ _ t (by simp; omega), World.cell?_alloc_lt _ _ t htl]; exact ht0)
   (by rw [World.frozen?_alloc_old _ _ t (by simp; omega), World.frozen?_alloc_old _ _ t (by simp; omega), World.frozen?_alloc_old _ _ t (by simp; omega), World.frozen?_alloc_old _ _ t (Nat.ne_of_lt htl)]; exact hf0)
 go_enter Tryz.func59, Tryz.ntmps59
 go_wp2
 refine wp_loop_rounds 1 ?_
 rw [rounds_succ]
 go_wp2
 go_ret
 exact ⟨rfl, rfl⟩
end Go.Proofs.YtmnigckpejcaeaaGreatDoor
namespace Go.Proofs.YtmnigckpejcaeaaGreatDoor
open Go.RowKit
set_option maxRecDepth 100000
theorem cell_grown {w w' : World} {row : Option Nat} {b o : Nat} {v : Value} (h : w.cell? ⟨b, o, none⟩ = some v) (hg : w.grownBy w' row) (hne : some b ≠ row) : w'.cell? ⟨b, o, none⟩ = some v := by
 have e := hg.block b (World.block_lt_of_cell? _ _ h) hne
 simpa [World.cell?, e] using h
end Go.Proofs.YtmnigckpejcaeaaGreatDoor
namespace Go.Proofs.YtmnigckpejcaeaaGreatDoor
open Go.RowKit
set_option maxRecDepth 100000
def ErrType (w : World) : Prop := w.cell? ⟨1, 0, none⟩ = some (.iface 186 (.agg #[.pointer (some ⟨5, 34, none⟩)]))
theorem ErrType.below {w w' : World} (h : ErrType w) (hb : Below w.heap.size w w') : ErrType w' := by
 unfold ErrType
 rw [hb.cell (World.block_lt_of_cell? _ _ h)]
 exact h
theorem frozen_grown {w w' : World} {row : Option Nat} {b o : Nat} (h : b < w.heap.size) (hg : w.grownBy w' row) (hne : some b ≠ row) : w'.frozen? ⟨b, o, none⟩ = w.frozen? ⟨b, o, none⟩ := by
 have e := hg.block b h hne
 simp [World.frozen?, e]
def Hit (w w' : World) (b : Nat) (v : Value) : Prop := w'.cell? ⟨b, 0, none⟩ = some v /\ w'.frozen? ⟨b, 0, none⟩ = false /\ Below b w w' /\ w.grownBy w' (some b)
theorem hit_mk (w : World) (o1 o2 o3 o4 : Obj) (b : Nat) (v old : Value) (hc : w.cell? ⟨b, 0, none⟩ = some old) (hf : w.frozen? ⟨b, 0, none⟩ = false) : Hit w (((((w.alloc o1).alloc o2).alloc o3).alloc o4).setCell ⟨b, 0, none⟩ v) b v := by
 have hlt := World.block_lt_of_cell? _ _ hc
 have hB : Below w.heap.size w ((((w.alloc o1).alloc o2).alloc o3).alloc o4) := ((((Below.refl w.heap.size w).alloc (Nat.le_refl _) _).alloc (by simp) _).alloc (by simp; omega) _).alloc (by simp; omega) _
 have hc2 := (hB.cell hlt).trans hc
 have hf2 := (hB.frozen hlt).trans hf
 refine ⟨World.cell?_setCell_same' _ _ _ (by rw [hc2]; rfl), by rw [World.frozen?_setCell]; exact hf2, (hB.mono (Nat.le_of_lt hlt)).setCell (Nat.le_refl _) _, ?_⟩
 exact grownBy_trans (grownBy_trans (grownBy_trans (grownBy_trans (World.grownBy_alloc w o1 _) (World.grownBy_alloc _ o2 _)) (World.grownBy_alloc _ o3 _)) (World.grownBy_alloc _ o4 _)) (grownBy_setCell' _ b v)
theorem Hit.cell {w w' : World} {b c o : Nat} {v x : Value} (h : Hit w w' b v) (hx : w.cell? ⟨c, o, none⟩ = some x) (hne : c ≠ b) : w'.cell? ⟨c, o, none⟩ = some x := cell_grown hx h.2.2.2 (by simpa using hne)
theorem Hit.frozen {w w' : World} {b c o : Nat} {v : Value} (h : Hit w w' b v) (hc : c < w.heap.size) (hx : w.frozen? ⟨c, o, none⟩ = false) (hne : c ≠ b) : w'.frozen? ⟨c, o, none⟩ = false := (frozen_grown hc h.2.2.2 (by simpa using hne)).trans hx
theorem as_B (e : Addr) (b : Nat) (old : Value) (w : World) (hE : ErrType w) (hc : w.cell? ⟨b, 0, none⟩ = some old) (hf : w.frozen? ⟨b, 0, none⟩ = false) :
   Calls Tryz.prog 59 #[.iface 77 (.pointer (some e)), .iface 113 (.pointer (some ⟨b, 0, none⟩))] w fun ev w' => ev = .returned (.bool true) /\ Hit w w' b (.pointer (some e)) := by
 refine (as_hitB e ⟨b, 0, none⟩ old w hE hc hf).mono ?_
 rintro ev w' ⟨rfl, rfl⟩
 exact ⟨rfl, hit_mk w _ _ _ _ b _ old hc hf⟩
end Go.Proofs.YtmnigckpejcaeaaGreatDoor
namespace Go.Proofs.YtmnigckpejcaeaaGreatDoor
open Go.RowKit Go.Shelf
set_option maxRecDepth 1000000
attribute [local go_sem] Oper.semAt_some
theorem keeps_below {W W' : World} (h : Below W.heap.size W W') : KeepsOthers W W' := ⟨h.size, fun k _o hk _ => (h.block k (Array.getElem?_eq_some_iff.1 hk).1).trans hk⟩
theorem boxed_below' {W W' : World} {B : Nat} {t : TypeId} {v : Value} (h : Boxed W B t v) (hb : Below W.heap.size W W') : Boxed W' B t v := (hb.block B h.lt).trans h
theorem wpListIn_load_quad {F : Fence} {n : Nat} {ops : Array Oper} {rest : List Oper} {o : Oper} {a : Act} {w : World} {Q : Exit -> Act -> World -> Prop} (hgd : o.guard = none) (x : Operand) (ho : o.op = .load 56 x)
   (b k : Nat) (hx : a.eval x = .pointer (some ⟨b, k, none⟩)) (q : QuadL) (hr : w.rangeAt b k (quadC q)) (h : wpListIn F n Tryz.prog ops Q rest (a.put o.dst (qv q)) w) : wpListIn F n Tryz.prog ops Q (o :: rest) a w := by
 refine wpListIn_plain hgd fun K hK => ?_
 have hl : (Instr.loadAt 56 (.pointer (some ⟨b, k, none⟩))).run Tryz.prog w = .ok (qv q) w := run_loadAt_mid w b k _ (quadC q) _ hr Tryz.underlying56 rfl (by kernel_rfl)
 unfold Oper.wpIn
 refine ⟨?_, ?_⟩
 · simp [Oper.about, ho]
 · rw [Oper.semAt_plain F _ _ (by rw [ho]; intro c hc'; cases hc')]
   simp only [execOp, ho, hx, Sem.run_bind, hl, Result.andThen_ok, Sem.run_pure]
   exact hK _ _ h
theorem boxed_kept' {X Y : World} {row : Option Nat} {B : Nat} {t : TypeId} {v : Value} (h : Boxed X B t v) (hg : X.grownBy Y row) (hr : ∀ r, row = some r -> ∃ o : Obj, X.heap[r]? = some o /\ o.isCells = false) : Boxed Y B t v :=
 h.kept hg (fun e => by obtain ⟨o, ho, hc⟩ := hr B e.symm; rw [show X.heap[B]? = _ from h] at ho; cases ho; cases hc)
def firstRangeC : Code -> Option Code
 | .rangeFunc g ps a b => some (.rangeFunc g ps a b)
 | .loop c => firstRangeC c
 | .seq a b => match firstRangeC a with
   | some c => some c
   | none => firstRangeC b
 | .block _ c => firstRangeC c
 | .scope c => firstRangeC c
 | .cond _ a b => match firstRangeC a with
   | some c => some c
   | none => firstRangeC b
 | _ => none
def rangePartsC : Code -> Option (Code × Code)
 | .rangeFunc _ _ a b => some (a, b)
 | _ => none
theorem zeroU (w : World) : (zeroValue 114).run Tryz.prog w = .ok (.agg #[]) w := by kernel_rfl
theorem own_cells {w : World} {base : Nat} {e : TypeId} {s : Nat} {v : Value} {n : Nat} {xs : List Value} (h : w.ownsRow base e s v n xs) : ∀ (j : Nat) (o : Obj), v.ownBlock = some j -> w.heap[j]? = some o -> o.isCells = true := by
 intro j o hj ho
 rcases h.2 with ⟨rfl, _⟩ | ⟨g, cap, cur, rfl, _, h3, _⟩
 · simp [Value.ownBlock] at hj
 · simp [Value.ownBlock] at hj
   subst hj
   rw [h3] at ho; cases ho; rfl
theorem QFresh.form {base : Nat} {v : Value} {l : List QuadL} {w : World} (h : QFresh base v l w) : ∃ ad n cp, v = .slice ad n cp := by
 rcases h with ⟨_, rfl⟩ | ⟨g, _, _, rfl, _⟩
 · exact ⟨none, 0, 0, rfl⟩
 · exact ⟨_, _, _, rfl⟩
theorem QFresh.keep {b b' : Nat} {v : Value} {l : List QuadL} {w w' : World} (h : QFresh b v l w) (hb : b' <= b) (hs : w.heap.size <= w'.heap.size) (hk : ∀ k, b <= k -> k < w.heap.size -> w'.heap[k]? = w.heap[k]?) : QFresh b' v l w' := by
 rcases h with h | ⟨g, h1, h2, rfl, h3⟩
 · exact .inl h
 · refine .inr ⟨g, by omega, by omega, rfl, (qhold_iff w' g l).2 (fun j hj => ?_)⟩
   have := (qhold_iff w g l).1 h3 j hj
   have e := hk g h1 h2
   refine ⟨?_, ?_⟩
   · rw [World.cell?_of_block e]; exact this.1
   · simp only [World.frozen?] at this ⊢; rw [e]; exact this.2
end Go.Proofs.YtmnigckpejcaeaaGreatDoor
