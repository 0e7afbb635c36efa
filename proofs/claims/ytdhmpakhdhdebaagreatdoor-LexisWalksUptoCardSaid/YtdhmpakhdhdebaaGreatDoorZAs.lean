/-
  bytes.IndexAny of a line's two ends, of bytes that lie somewhere: a contract. By an AI agent.
-/
import Derived.Lib.RuneCountTail
import Derived.Shelf.Spec.DecodeRune
import Derived.Stop.Asserts
import Derived.Test.YtdhmpakhdhdebaaGreatDoorZLexR14
import Derived.Test.YtdhmpakhdhdebaaGreatDoorZMaxAt
import Derived.LaidHandle
import Derived.Lib.LaidU8T
namespace Go.Proofs.YtdhmpakhdhdebaaGreatDoor
open Go.Lib (hid)
open Go.RowKit
set_option maxRecDepth 1000000
def UtAt (w : World) : Prop := Lib.Utf8Tabs 4 5 w
theorem UtAt.below {w w' : World} (h : UtAt w) (hb : Below w.heap.size w w') : UtAt w' :=
 ⟨fun c hc => by rw [hb.cell (p := ⟨4, c, none⟩) (World.block_lt_of_cell? _ _ (h.1 c hc))]; exact h.1 c hc,
  fun i hi => ⟨by rw [hb.cell (p := ⟨5, 2 * i, none⟩) (World.block_lt_of_cell? _ _ (h.2 i hi).1)]; exact (h.2 i hi).1, by rw [hb.cell (p := ⟨5, 2 * i + 1, none⟩) (World.block_lt_of_cell? _ _ (h.2 i hi).2)]; exact (h.2 i hi).2⟩⟩
end Go.Proofs.YtdhmpakhdhdebaaGreatDoor
namespace Go.Proofs.YtdhmpakhdhdebaaGreatDoor
open Go.Lib (hid)
open Go.RowKit Go.Extern.Stop Go.Stop Go.Extern
set_option maxRecDepth 100000
theorem methodKind (h : Value) (w : World) : (Go.method (Tryz.prog.types.size + 100) 168 (.agg #[h]) "Kind").run Tryz.prog w = .ok (264, h) w := by kernel_rfl
theorem methodElem (h : Value) (w : World) : (Go.method (Tryz.prog.types.size + 100) 168 (.agg #[h]) "Elem").run Tryz.prog w = .ok (277, .agg #[h]) w := by kernel_rfl
theorem methodImplements (h : Value) (w : World) : (Go.method (Tryz.prog.types.size + 100) 168 (.agg #[h]) "Implements").run Tryz.prog w = .ok (278, .agg #[h]) w := by kernel_rfl
theorem methodAssignableTo (h : Value) (w : World) : (Go.method (Tryz.prog.types.size + 100) 168 (.agg #[h]) "AssignableTo").run Tryz.prog w = .ok (275, .agg #[h]) w := by kernel_rfl
theorem typesSize : Tryz.prog.types.size + 100 = 417 := by kernel_rfl
theorem rlm (z : Sem Value) (f : TypeId -> Addr -> Nat -> Nat -> Sem Value) (v : Value) :
  ReflectliteValue.method z f #[v] = (do match <- ReflectliteValue.parts v with | none => z | some (t, a, fl) => f t a fl (fl % 32)) := rfl
theorem rls (v x : Value) : ReflectliteValue.set #[v, x] = (do
  let (some (dst, a, fl), some (src, b, _)) := (<- ReflectliteValue.parts v, <- ReflectliteValue.parts x)
   | unsupported (.noEntry "extern/(internal/reflectlite.Value).Set.zeroValue")
  if fl / ReflectliteValue.flagAddr % 2 == 0 then unsupported (.noEntry "extern/(internal/reflectlite.Value).Set.unaddressable")
  let val <- loadVar src b
  if <- Rtype.directlyAssignable dst src then storeVar dst a val
  else if <- Rtype.implements dst src then
   if (<- Rtype.kind src) == 20 then
    match val with
    | .nilIface => unsupported (.noEntry "extern/reflectlite: a nil value of one interface type handed on as a value of another")
    | _ => storeVar dst a val
   else storeVar dst a (.iface src val)
  else panicString ("reflectlite.Set: value of type " ++ (<- Rtype.spelt src) ++ " is not assignable to type " ++ (<- Rtype.spelt dst))
  pure (.tuple #[])) := rfl
theorem valueOfTB (t : Addr) (w : World) : (ReflectliteValue.unpack (.iface 93 (.pointer (some t)))).run Tryz.prog w
  = .ok (.agg #[.pointer (some ⟨6, 93, none⟩), .pointer (some ⟨w.heap.size, 0, none⟩), .int .u64 150]) (w.alloc (.cells #[.pointer (some t)] 93)) := by kernel_rfl
theorem typeTB (a : Addr) (w : World) : (ReflectliteValue.methodAny (ReflectliteValue.valueError "reflectlite.Value.Type" 0) (fun t _ _ _ => ReflectliteType.toType t) #[.agg #[.pointer (some ⟨6, 93, none⟩), .pointer (some a), .int .u64 150]]).run Tryz.prog w
  = .ok (.iface 168 (.agg #[.pointer (some ⟨6, 93, none⟩)])) w := by kernel_rfl
theorem kindTB (w : World) : ((ReflectliteType.abiMethod fun t => (fun a : Nat => Value.int IntKind.u8 (a : Int)) <$> Rtype.kind t) #[.pointer (some ⟨6, 93, none⟩)]).run Tryz.prog w = .ok (.int .u8 22) w := by kernel_rfl
theorem kindEB (w : World) : ((ReflectliteType.abiMethod fun t => (fun a : Nat => Value.int IntKind.u8 (a : Int)) <$> Rtype.kind t) #[.pointer (some ⟨6, 91, none⟩)]).run Tryz.prog w = .ok (.int .u8 22) w := by kernel_rfl
theorem partsTB (a : Addr) (w : World) : (ReflectliteValue.parts (.agg #[.pointer (some ⟨6, 93, none⟩), .pointer (some a), .int .u64 150])).run Tryz.prog w = .ok (some (93, a, 150)) w := by kernel_rfl
theorem isNilTB (a p : Addr) (W : World) (ha : W.cell? a = some (.pointer (some p))) :
  (ReflectliteValue.method (ReflectliteValue.valueError "reflectlite.Value.IsNil" 0) ReflectliteValue.isNil #[.agg #[.pointer (some ⟨6, 93, none⟩), .pointer (some a), .int .u64 150]]).run Tryz.prog W = .ok (.bool false) W := by
 rw [rlm]
 simp only [Sem.run_bind, partsTB, Result.andThen]
 simp [ReflectliteValue.isNil, loadVar, isAgg, underlying, Tryz.underlying93, ha, Result.andThen]
theorem elemTB (w : World) : (ReflectliteType.method ReflectliteType.elem #[.agg #[.pointer (some ⟨6, 93, none⟩)]]).run Tryz.prog w = .ok (.iface 168 (.agg #[.pointer (some ⟨6, 91, none⟩)])) w := by kernel_rfl
theorem implementsEB (w : World) : (ReflectliteType.relation "Implements" ReflectliteType.implements_ #[.agg #[.pointer (some ⟨6, 91, none⟩)], .iface 168 (.agg #[.pointer (some ⟨6, 37, none⟩)])]).run Tryz.prog w = .ok (.bool true) w := by kernel_rfl
theorem typeOfEB (v : Value) (w : World) : (ReflectliteType.typeOf #[.iface 91 v]).run Tryz.prog w = .ok (.iface 168 (.agg #[.pointer (some ⟨6, 91, none⟩)])) w := by kernel_rfl
theorem assignableEB (w : World) : (ReflectliteType.relation "AssignableTo" ReflectliteType.assignableTo #[.agg #[.pointer (some ⟨6, 91, none⟩)], .iface 168 (.agg #[.pointer (some ⟨6, 91, none⟩)])]).run Tryz.prog w = .ok (.bool true) w := by kernel_rfl
theorem valueOfEB (e : Addr) (w : World) : (ReflectliteValue.unpack (.iface 91 (.pointer (some e)))).run Tryz.prog w
  = .ok (.agg #[.pointer (some ⟨6, 91, none⟩), .pointer (some ⟨w.heap.size, 0, none⟩), .int .u64 150]) (w.alloc (.cells #[(.pointer (some e))] 91)) := by kernel_rfl
theorem elemOfTB (w : World) : (Rtype.elem? 93).run Tryz.prog w = .ok (some 91) w := by kernel_rfl
theorem mkEB (p : Addr) (w : World) : (ReflectliteValue.mk 91 p ReflectliteValue.flagAddr).run Tryz.prog w = .ok (.agg #[.pointer (some ⟨6, 91, none⟩), .pointer (some p), .int .u64 406]) w := by kernel_rfl
theorem elemVTB (a p : Addr) (W : World) (ha : W.cell? a = some (.pointer (some p))) :
  (ReflectliteValue.method (ReflectliteValue.valueError "reflectlite.Value.Elem" 0) ReflectliteValue.elem #[.agg #[.pointer (some ⟨6, 93, none⟩), .pointer (some a), .int .u64 150]]).run Tryz.prog W
   = .ok (.agg #[.pointer (some ⟨6, 91, none⟩), .pointer (some p), .int .u64 406]) W := by
 rw [rlm]
 simp only [Sem.run_bind, partsTB, Result.andThen]
 simp [ReflectliteValue.elem, loadVar, isAgg, underlying, Tryz.underlying93, ha, Result.andThen, elemOfTB, mkEB]
theorem partsEaB (a : Addr) (w : World) : (ReflectliteValue.parts (.agg #[.pointer (some ⟨6, 91, none⟩), .pointer (some a), .int .u64 406])).run Tryz.prog w = .ok (some (91, a, 406)) w := by kernel_rfl
theorem partsEB (a : Addr) (w : World) : (ReflectliteValue.parts (.agg #[.pointer (some ⟨6, 91, none⟩), .pointer (some a), .int .u64 150])).run Tryz.prog w = .ok (some (91, a, 150)) w := by kernel_rfl
theorem directEB (w : World) : (Rtype.directlyAssignable 91 91).run Tryz.prog w = .ok true w := by kernel_rfl
theorem setEB (ta b : Addr) (e : Addr) (old : Value) (W : World) (hb : W.cell? b = some (.pointer (some e))) (ht : W.cell? ta = some old) (hf : W.frozen? ta = false) :
  (ReflectliteValue.set #[.agg #[.pointer (some ⟨6, 91, none⟩), .pointer (some ta), .int .u64 406], .agg #[.pointer (some ⟨6, 91, none⟩), .pointer (some b), .int .u64 150]]).run Tryz.prog W
   = .ok (.tuple #[]) (W.setCell ta (.pointer (some e))) := by
 rw [rls]
 simp only [Sem.run_bind, partsEaB, partsEB, Result.andThen]
 simp [ReflectliteValue.flagAddr, loadVar, isAgg, underlying, Tryz.underlying91, hb, Result.andThen, directEB, storeVar, Value.cells, storeCells, Addr.add]
 rw [run_store Tryz.prog W ta _ _ (by rfl)]
 simp [ht, hf]
set_option maxHeartbeats 4000000 in
theorem as_hitB (e : Addr) (t : Addr) (old : Value) (w : World) (hg : w.cell? ⟨0, 0, none⟩ = some (.iface 168 (.agg #[.pointer (some ⟨6, 37, none⟩)]))) (ht0 : w.cell? t = some old) (hf0 : w.frozen? t = false) :
  Calls Tryz.prog 38 #[.iface 91 (.pointer (some e)), .iface 93 (.pointer (some t))] w fun ev w' => ev = .returned (.bool true) /\ w' = ((((w.alloc (.cells #[.pointer (some t)] 93)).alloc (.cells #[.pointer (some ⟨6, 93, none⟩), .pointer (some ⟨w.heap.size, 0, none⟩), .int .u64 150] 133)).alloc (.cells #[.pointer (some ⟨6, 93, none⟩), .pointer (some ⟨w.heap.size, 0, none⟩), .int .u64 150] 133)).alloc (.cells #[(.pointer (some e))] 91)).setCell t (.pointer (some e)) := by
 have h6 := @run_callFunc_extern Tryz.prog 56 _ (fun args => ReflectliteValue.unpack (args.getD 0 (.tuple #[]))) Tryz.func56 (by kernel_rfl) (by kernel_rfl) (by kernel_rfl) (by kernel_rfl)
 have h7 := @run_callFunc_extern Tryz.prog 57 _ (ReflectliteValue.methodAny (ReflectliteValue.valueError "reflectlite.Value.Type" 0) (fun t _ _ _ => ReflectliteType.toType t)) Tryz.func57 (by kernel_rfl) (by kernel_rfl) (by kernel_rfl) (by kernel_rfl)
 have h8 := @run_callFunc_extern Tryz.prog 58 _ (ReflectliteValue.method (ReflectliteValue.valueError "reflectlite.Value.IsNil" 0) ReflectliteValue.isNil) Tryz.func58 (by kernel_rfl) (by kernel_rfl) (by kernel_rfl) (by kernel_rfl)
 have h27 := @run_callFunc_extern Tryz.prog 264 _ (ReflectliteType.abiMethod fun t => do pure (.int .u8 (<- Rtype.kind t))) Tryz.func264 (by kernel_rfl) (by kernel_rfl) (by kernel_rfl) (by kernel_rfl)
 have h37 := @run_callFunc_extern Tryz.prog 277 _ (ReflectliteType.method ReflectliteType.elem) Tryz.func277 (by kernel_rfl) (by kernel_rfl) (by kernel_rfl) (by kernel_rfl)
 have h38 := @run_callFunc_extern Tryz.prog 278 _ (ReflectliteType.relation "Implements" ReflectliteType.implements_) Tryz.func278 (by kernel_rfl) (by kernel_rfl) (by kernel_rfl) (by kernel_rfl)
 have h10 := @run_callFunc_extern Tryz.prog 89 _ ReflectliteType.typeOf Tryz.func89 (by kernel_rfl) (by kernel_rfl) (by kernel_rfl) (by kernel_rfl)
 have h35 := @run_callFunc_extern Tryz.prog 275 _ (ReflectliteType.relation "AssignableTo" ReflectliteType.assignableTo) Tryz.func275 (by kernel_rfl) (by kernel_rfl) (by kernel_rfl) (by kernel_rfl)
 have h11 := @run_callFunc_extern Tryz.prog 90 _ (ReflectliteValue.method (ReflectliteValue.valueError "reflectlite.Value.Elem" 0) ReflectliteValue.elem) Tryz.func90 (by kernel_rfl) (by kernel_rfl) (by kernel_rfl) (by kernel_rfl)
 have h12 := @run_callFunc_extern Tryz.prog 91 _ ReflectliteValue.set Tryz.func91 (by kernel_rfl) (by kernel_rfl) (by kernel_rfl) (by kernel_rfl)
 have tO := typeOfEB
 have mA := methodAssignableTo
 have mK := methodKind
 have mE := methodElem
 have mI := methodImplements
 rw [typesSize] at mA mK mE mI
 have aE := assignableEB
 have vE := valueOfEB
 have f6 := valueOfTB
 have f7 := typeTB
 have kT := kindTB
 have kE := kindEB
 have eT := elemTB
 have iE := implementsEB
 have n8 := isNilTB ⟨w.heap.size, 0, none⟩ t ((w.alloc (.cells #[.pointer (some t)] 93)).alloc (.cells #[.pointer (some ⟨6, 93, none⟩), .pointer (some ⟨w.heap.size, 0, none⟩), .int .u64 150] 133)) (by simp)
 have hlt : 0 < w.heap.size := World.block_lt_of_cell? _ _ hg
 have hg2 : ((w.alloc (.cells #[.pointer (some t)] 93)).alloc (.cells #[.pointer (some ⟨6, 93, none⟩), .pointer (some ⟨w.heap.size, 0, none⟩), .int .u64 150] 133)).cell? ⟨0, 0, none⟩ = some (.iface 168 (.agg #[.pointer (some ⟨6, 37, none⟩)])) := by
  rw [World.cell?_alloc_lt _ _ ⟨0, 0, none⟩ (by simp <;> omega), World.cell?_alloc_lt _ _ ⟨0, 0, none⟩ hlt]; exact hg
 have htl : t.block < w.heap.size := by
  rcases Nat.lt_or_ge t.block w.heap.size with h | h
  ·exact h
  ·simp [World.cell?, Array.getElem?_eq_none h] at ht0
 have el := elemVTB ⟨w.heap.size, 0, none⟩ t (((w.alloc (.cells #[.pointer (some t)] 93)).alloc (.cells #[.pointer (some ⟨6, 93, none⟩), .pointer (some ⟨w.heap.size, 0, none⟩), .int .u64 150] 133)).alloc (.cells #[.pointer (some ⟨6, 93, none⟩), .pointer (some ⟨w.heap.size, 0, none⟩), .int .u64 150] 133)) (by rw [World.cell?_alloc_lt _ _ ⟨w.heap.size, 0, none⟩ (by simp; omega)]; simp)
 have st := setEB t ⟨w.heap.size + 1 + 1 + 1, 0, none⟩ e old ((((w.alloc (.cells #[.pointer (some t)] 93)).alloc (.cells #[.pointer (some ⟨6, 93, none⟩), .pointer (some ⟨w.heap.size, 0, none⟩), .int .u64 150] 133)).alloc (.cells #[.pointer (some ⟨6, 93, none⟩), .pointer (some ⟨w.heap.size, 0, none⟩), .int .u64 150] 133)).alloc (.cells #[(.pointer (some e))] 91))
  (by rw [World.cell?_alloc_at _ _ _ _ (by simp)]; rfl)
  (by rw [World.cell?_alloc_lt _ _ t (by simp; omega), World.cell?_alloc_lt _ _ t (by simp; omega), World.cell?_alloc_lt _ _ t (by simp; omega), World.cell?_alloc_lt _ _ t htl]; exact ht0)
  (by rw [World.frozen?_alloc_old _ _ t (by simp; omega), World.frozen?_alloc_old _ _ t (by simp; omega), World.frozen?_alloc_old _ _ t (by simp; omega), World.frozen?_alloc_old _ _ t (Nat.ne_of_lt htl)]; exact hf0)
 go_enter Tryz.func38, Tryz.ntmps38
 go_wp2
 refine wp_loop_rounds 1 ?_
 rw [rounds_succ]
 go_wp2
 go_ret
 exact ⟨rfl, rfl⟩
theorem valueOfTE (t : Addr) (w : World) : (ReflectliteValue.unpack (.iface 96 (.pointer (some t)))).run Tryz.prog w
  = .ok (.agg #[.pointer (some ⟨6, 96, none⟩), .pointer (some ⟨w.heap.size, 0, none⟩), .int .u64 150]) (w.alloc (.cells #[.pointer (some t)] 96)) := by kernel_rfl
theorem typeTE (a : Addr) (w : World) : (ReflectliteValue.methodAny (ReflectliteValue.valueError "reflectlite.Value.Type" 0) (fun t _ _ _ => ReflectliteType.toType t) #[.agg #[.pointer (some ⟨6, 96, none⟩), .pointer (some a), .int .u64 150]]).run Tryz.prog w
  = .ok (.iface 168 (.agg #[.pointer (some ⟨6, 96, none⟩)])) w := by kernel_rfl
theorem kindTE (w : World) : ((ReflectliteType.abiMethod fun t => (fun a : Nat => Value.int IntKind.u8 (a : Int)) <$> Rtype.kind t) #[.pointer (some ⟨6, 96, none⟩)]).run Tryz.prog w = .ok (.int .u8 22) w := by kernel_rfl
theorem kindEE (w : World) : ((ReflectliteType.abiMethod fun t => (fun a : Nat => Value.int IntKind.u8 (a : Int)) <$> Rtype.kind t) #[.pointer (some ⟨6, 74, none⟩)]).run Tryz.prog w = .ok (.int .u8 2) w := by kernel_rfl
theorem partsTE (a : Addr) (w : World) : (ReflectliteValue.parts (.agg #[.pointer (some ⟨6, 96, none⟩), .pointer (some a), .int .u64 150])).run Tryz.prog w = .ok (some (96, a, 150)) w := by kernel_rfl
theorem isNilTE (a p : Addr) (W : World) (ha : W.cell? a = some (.pointer (some p))) :
  (ReflectliteValue.method (ReflectliteValue.valueError "reflectlite.Value.IsNil" 0) ReflectliteValue.isNil #[.agg #[.pointer (some ⟨6, 96, none⟩), .pointer (some a), .int .u64 150]]).run Tryz.prog W = .ok (.bool false) W := by
 rw [rlm]
 simp only [Sem.run_bind, partsTE, Result.andThen]
 simp [ReflectliteValue.isNil, loadVar, isAgg, underlying, Tryz.underlying96, ha, Result.andThen]
theorem elemTE (w : World) : (ReflectliteType.method ReflectliteType.elem #[.agg #[.pointer (some ⟨6, 96, none⟩)]]).run Tryz.prog w = .ok (.iface 168 (.agg #[.pointer (some ⟨6, 74, none⟩)])) w := by kernel_rfl
theorem implementsEE (w : World) : (ReflectliteType.relation "Implements" ReflectliteType.implements_ #[.agg #[.pointer (some ⟨6, 74, none⟩)], .iface 168 (.agg #[.pointer (some ⟨6, 37, none⟩)])]).run Tryz.prog w = .ok (.bool true) w := by kernel_rfl
theorem typeOfEE (v : Value) (w : World) : (ReflectliteType.typeOf #[.iface 74 v]).run Tryz.prog w = .ok (.iface 168 (.agg #[.pointer (some ⟨6, 74, none⟩)])) w := by kernel_rfl
theorem assignableEE (w : World) : (ReflectliteType.relation "AssignableTo" ReflectliteType.assignableTo #[.agg #[.pointer (some ⟨6, 74, none⟩)], .iface 168 (.agg #[.pointer (some ⟨6, 74, none⟩)])]).run Tryz.prog w = .ok (.bool true) w := by kernel_rfl
theorem valueOfEE (n : Int) (w : World) : (ReflectliteValue.unpack (.iface 74 (.int .i64 n))).run Tryz.prog w
  = .ok (.agg #[.pointer (some ⟨6, 74, none⟩), .pointer (some ⟨w.heap.size, 0, none⟩), .int .u64 130]) (w.alloc (.cells #[(.int .i64 n)] 74)) := by kernel_rfl
theorem elemOfTE (w : World) : (Rtype.elem? 96).run Tryz.prog w = .ok (some 74) w := by kernel_rfl
theorem mkEE (p : Addr) (w : World) : (ReflectliteValue.mk 74 p ReflectliteValue.flagAddr).run Tryz.prog w = .ok (.agg #[.pointer (some ⟨6, 74, none⟩), .pointer (some p), .int .u64 386]) w := by kernel_rfl
theorem elemVTE (a p : Addr) (W : World) (ha : W.cell? a = some (.pointer (some p))) :
  (ReflectliteValue.method (ReflectliteValue.valueError "reflectlite.Value.Elem" 0) ReflectliteValue.elem #[.agg #[.pointer (some ⟨6, 96, none⟩), .pointer (some a), .int .u64 150]]).run Tryz.prog W
   = .ok (.agg #[.pointer (some ⟨6, 74, none⟩), .pointer (some p), .int .u64 386]) W := by
 rw [rlm]
 simp only [Sem.run_bind, partsTE, Result.andThen]
 simp [ReflectliteValue.elem, loadVar, isAgg, underlying, Tryz.underlying96, ha, Result.andThen, elemOfTE, mkEE]
theorem partsEaE (a : Addr) (w : World) : (ReflectliteValue.parts (.agg #[.pointer (some ⟨6, 74, none⟩), .pointer (some a), .int .u64 386])).run Tryz.prog w = .ok (some (74, a, 386)) w := by kernel_rfl
theorem partsEE (a : Addr) (w : World) : (ReflectliteValue.parts (.agg #[.pointer (some ⟨6, 74, none⟩), .pointer (some a), .int .u64 130])).run Tryz.prog w = .ok (some (74, a, 130)) w := by kernel_rfl
theorem directEE (w : World) : (Rtype.directlyAssignable 74 74).run Tryz.prog w = .ok true w := by kernel_rfl
theorem setEE (ta b : Addr) (n : Int) (old : Value) (W : World) (hb : W.cell? b = some (.int .i64 n)) (ht : W.cell? ta = some old) (hf : W.frozen? ta = false) :
  (ReflectliteValue.set #[.agg #[.pointer (some ⟨6, 74, none⟩), .pointer (some ta), .int .u64 386], .agg #[.pointer (some ⟨6, 74, none⟩), .pointer (some b), .int .u64 130]]).run Tryz.prog W
   = .ok (.tuple #[]) (W.setCell ta (.int .i64 n)) := by
 rw [rls]
 simp only [Sem.run_bind, partsEaE, partsEE, Result.andThen]
 simp [ReflectliteValue.flagAddr, loadVar, isAgg, underlying, Tryz.underlying74, hb, Result.andThen, directEE, storeVar, Value.cells, storeCells, Addr.add]
 rw [run_store Tryz.prog W ta _ _ (by rfl)]
 simp [ht, hf]
set_option maxHeartbeats 4000000 in
theorem as_hitE (n : Int) (t : Addr) (old : Value) (w : World) (hg : w.cell? ⟨0, 0, none⟩ = some (.iface 168 (.agg #[.pointer (some ⟨6, 37, none⟩)]))) (ht0 : w.cell? t = some old) (hf0 : w.frozen? t = false) :
  Calls Tryz.prog 38 #[.iface 74 (.int .i64 n), .iface 96 (.pointer (some t))] w fun ev w' => ev = .returned (.bool true) /\ w' = ((((w.alloc (.cells #[.pointer (some t)] 96)).alloc (.cells #[.pointer (some ⟨6, 96, none⟩), .pointer (some ⟨w.heap.size, 0, none⟩), .int .u64 150] 133)).alloc (.cells #[.pointer (some ⟨6, 96, none⟩), .pointer (some ⟨w.heap.size, 0, none⟩), .int .u64 150] 133)).alloc (.cells #[(.int .i64 n)] 74)).setCell t (.int .i64 n) := by
 have h6 := @run_callFunc_extern Tryz.prog 56 _ (fun args => ReflectliteValue.unpack (args.getD 0 (.tuple #[]))) Tryz.func56 (by kernel_rfl) (by kernel_rfl) (by kernel_rfl) (by kernel_rfl)
 have h7 := @run_callFunc_extern Tryz.prog 57 _ (ReflectliteValue.methodAny (ReflectliteValue.valueError "reflectlite.Value.Type" 0) (fun t _ _ _ => ReflectliteType.toType t)) Tryz.func57 (by kernel_rfl) (by kernel_rfl) (by kernel_rfl) (by kernel_rfl)
 have h8 := @run_callFunc_extern Tryz.prog 58 _ (ReflectliteValue.method (ReflectliteValue.valueError "reflectlite.Value.IsNil" 0) ReflectliteValue.isNil) Tryz.func58 (by kernel_rfl) (by kernel_rfl) (by kernel_rfl) (by kernel_rfl)
 have h27 := @run_callFunc_extern Tryz.prog 264 _ (ReflectliteType.abiMethod fun t => do pure (.int .u8 (<- Rtype.kind t))) Tryz.func264 (by kernel_rfl) (by kernel_rfl) (by kernel_rfl) (by kernel_rfl)
 have h37 := @run_callFunc_extern Tryz.prog 277 _ (ReflectliteType.method ReflectliteType.elem) Tryz.func277 (by kernel_rfl) (by kernel_rfl) (by kernel_rfl) (by kernel_rfl)
 have h38 := @run_callFunc_extern Tryz.prog 278 _ (ReflectliteType.relation "Implements" ReflectliteType.implements_) Tryz.func278 (by kernel_rfl) (by kernel_rfl) (by kernel_rfl) (by kernel_rfl)
 have h10 := @run_callFunc_extern Tryz.prog 89 _ ReflectliteType.typeOf Tryz.func89 (by kernel_rfl) (by kernel_rfl) (by kernel_rfl) (by kernel_rfl)
 have h35 := @run_callFunc_extern Tryz.prog 275 _ (ReflectliteType.relation "AssignableTo" ReflectliteType.assignableTo) Tryz.func275 (by kernel_rfl) (by kernel_rfl) (by kernel_rfl) (by kernel_rfl)
 have h11 := @run_callFunc_extern Tryz.prog 90 _ (ReflectliteValue.method (ReflectliteValue.valueError "reflectlite.Value.Elem" 0) ReflectliteValue.elem) Tryz.func90 (by kernel_rfl) (by kernel_rfl) (by kernel_rfl) (by kernel_rfl)
 have h12 := @run_callFunc_extern Tryz.prog 91 _ ReflectliteValue.set Tryz.func91 (by kernel_rfl) (by kernel_rfl) (by kernel_rfl) (by kernel_rfl)
 have tO := typeOfEE
 have mA := methodAssignableTo
 have mK := methodKind
 have mE := methodElem
 have mI := methodImplements
 rw [typesSize] at mA mK mE mI
 have aE := assignableEE
 have vE := valueOfEE
 have f6 := valueOfTE
 have f7 := typeTE
 have kT := kindTE
 have kE := kindEE
 have eT := elemTE
 have iE := implementsEE
 have n8 := isNilTE ⟨w.heap.size, 0, none⟩ t ((w.alloc (.cells #[.pointer (some t)] 96)).alloc (.cells #[.pointer (some ⟨6, 96, none⟩), .pointer (some ⟨w.heap.size, 0, none⟩), .int .u64 150] 133)) (by simp)
 have hlt : 0 < w.heap.size := World.block_lt_of_cell? _ _ hg
 have hg2 : ((w.alloc (.cells #[.pointer (some t)] 96)).alloc (.cells #[.pointer (some ⟨6, 96, none⟩), .pointer (some ⟨w.heap.size, 0, none⟩), .int .u64 150] 133)).cell? ⟨0, 0, none⟩ = some (.iface 168 (.agg #[.pointer (some ⟨6, 37, none⟩)])) := by
  rw [World.cell?_alloc_lt _ _ ⟨0, 0, none⟩ (by simp <;> omega), World.cell?_alloc_lt _ _ ⟨0, 0, none⟩ hlt]; exact hg
 have htl : t.block < w.heap.size := by
  rcases Nat.lt_or_ge t.block w.heap.size with h | h
  ·exact h
  ·simp [World.cell?, Array.getElem?_eq_none h] at ht0
 have el := elemVTE ⟨w.heap.size, 0, none⟩ t (((w.alloc (.cells #[.pointer (some t)] 96)).alloc (.cells #[.pointer (some ⟨6, 96, none⟩), .pointer (some ⟨w.heap.size, 0, none⟩), .int .u64 150] 133)).alloc (.cells #[.pointer (some ⟨6, 96, none⟩), .pointer (some ⟨w.heap.size, 0, none⟩), .int .u64 150] 133)) (by rw [World.cell?_alloc_lt _ _ ⟨w.heap.size, 0, none⟩ (by simp; omega)]; simp)
 have st := setEE t ⟨w.heap.size + 1 + 1 + 1, 0, none⟩ n old ((((w.alloc (.cells #[.pointer (some t)] 96)).alloc (.cells #[.pointer (some ⟨6, 96, none⟩), .pointer (some ⟨w.heap.size, 0, none⟩), .int .u64 150] 133)).alloc (.cells #[.pointer (some ⟨6, 96, none⟩), .pointer (some ⟨w.heap.size, 0, none⟩), .int .u64 150] 133)).alloc (.cells #[(.int .i64 n)] 74))
  (by rw [World.cell?_alloc_at _ _ _ _ (by simp)]; rfl)
  (by rw [World.cell?_alloc_lt _ _ t (by simp; omega), World.cell?_alloc_lt _ _ t (by simp; omega), World.cell?_alloc_lt _ _ t (by simp; omega), World.cell?_alloc_lt _ _ t htl]; exact ht0)
  (by rw [World.frozen?_alloc_old _ _ t (by simp; omega), World.frozen?_alloc_old _ _ t (by simp; omega), World.frozen?_alloc_old _ _ t (by simp; omega), World.frozen?_alloc_old _ _ t (Nat.ne_of_lt htl)]; exact hf0)
 go_enter Tryz.func38, Tryz.ntmps38
 go_wp2
 refine wp_loop_rounds 1 ?_
 rw [rounds_succ]
 go_wp2
 go_ret
 exact ⟨rfl, rfl⟩
end Go.Proofs.YtdhmpakhdhdebaaGreatDoor
namespace Go.Proofs.YtdhmpakhdhdebaaGreatDoor
open Go.Lib (hid)
open Go.RowKit
set_option maxRecDepth 100000
def ErrType (w : World) : Prop := w.cell? ⟨0, 0, none⟩ = some (.iface 168 (.agg #[.pointer (some ⟨6, 37, none⟩)]))
theorem ErrType.below {w w' : World} (h : ErrType w) (hb : Below w.heap.size w w') : ErrType w' := by
 unfold ErrType
 rw [hb.cell (World.block_lt_of_cell? _ _ h)]
 exact h
theorem grownBy_trans {w v u : World} {r : Option Nat} (h : w.grownBy v r) (h2 : v.grownBy u r) : w.grownBy u r :=
 ⟨h2.1.trans h.1, h2.2.trans h.2, h2.3.trans h.3, Nat.le_trans h.4 h2.4, fun b hb hn => (h2.5 b (Nat.lt_of_lt_of_le hb h.4) hn).trans (h.5 b hb hn)⟩
theorem frozen_grown {w w' : World} {row : Option Nat} {b o : Nat} (h : b < w.heap.size) (hg : w.grownBy w' row) (hne : some b ≠ row) : w'.frozen? ⟨b, o, none⟩ = w.frozen? ⟨b, o, none⟩ := by
 have e := hg.block b h hne
 simp [World.frozen?, e]
def Hit (w w' : World) (b : Nat) (v : Value) : Prop := w'.cell? ⟨b, 0, none⟩ = some v /\ w'.frozen? ⟨b, 0, none⟩ = false /\ Below b w w' /\ w.grownBy w' (some b)
theorem hit_mk (w : World) (o1 o2 o3 o4 : Obj) (b : Nat) (v old : Value) (hc : w.cell? ⟨b, 0, none⟩ = some old) (hf : w.frozen? ⟨b, 0, none⟩ = false) : Hit w (((((w.alloc o1).alloc o2).alloc o3).alloc o4).setCell ⟨b, 0, none⟩ v) b v := by
 have hlt := World.block_lt_of_cell? _ _ hc
 have hB : Below w.heap.size w ((((w.alloc o1).alloc o2).alloc o3).alloc o4) := ((((Below.refl w.heap.size w).alloc (Nat.le_refl _) _).alloc (by simp) _).alloc (by simp; omega) _).alloc (by simp; omega) _
 have hc2 := (hB.cell hlt).trans hc
 have hf2 := (hB.frozen hlt).trans hf
 refine ⟨World.cell?_setCell_same' _ _ _ (by rw [hc2]; rfl), by rw [World.frozen?_setCell]; exact hf2, (hB.mono (Nat.le_of_lt hlt)).setCell (Nat.le_refl _) _, ?_⟩
 exact grownBy_trans (grownBy_trans (grownBy_trans (grownBy_trans (World.grownBy_alloc w o1 _) (World.grownBy_alloc _ o2 _)) (World.grownBy_alloc _ o3 _)) (World.grownBy_alloc _ o4 _)) (grownBy_setCell' _ b v)
theorem Hit.cell {w w' : World} {b c o : Nat} {v x : Value} (h : Hit w w' b v) (hx : w.cell? ⟨c, o, none⟩ = some x) (hne : c ≠ b) : w'.cell? ⟨c, o, none⟩ = some x := cell_grown hx h.2.2.2 (by simpa using hne)
theorem Hit.frozen {w w' : World} {b c o : Nat} {v : Value} (h : Hit w w' b v) (hc : c < w.heap.size) (hx : w.frozen? ⟨c, o, none⟩ = false) (hne : c ≠ b) : w'.frozen? ⟨c, o, none⟩ = false := (frozen_grown hc h.2.2.2 (by simpa using hne)).trans hx
theorem as_B (e : Addr) (b : Nat) (old : Value) (w : World) (hE : ErrType w) (hc : w.cell? ⟨b, 0, none⟩ = some old) (hf : w.frozen? ⟨b, 0, none⟩ = false) :
  Calls Tryz.prog 38 #[.iface 91 (.pointer (some e)), .iface 93 (.pointer (some ⟨b, 0, none⟩))] w fun ev w' => ev = .returned (.bool true) /\ Hit w w' b (.pointer (some e)) := by
 refine (as_hitB e ⟨b, 0, none⟩ old w hE hc hf).mono ?_
 rintro ev w' ⟨rfl, rfl⟩
 exact ⟨rfl, hit_mk w _ _ _ _ b _ old hc hf⟩
theorem as_E (n : Int) (b : Nat) (old : Value) (w : World) (hE : ErrType w) (hc : w.cell? ⟨b, 0, none⟩ = some old) (hf : w.frozen? ⟨b, 0, none⟩ = false) :
  Calls Tryz.prog 38 #[.iface 74 (.int .i64 n), .iface 96 (.pointer (some ⟨b, 0, none⟩))] w fun ev w' => ev = .returned (.bool true) /\ Hit w w' b (.int .i64 n) := by
 refine (as_hitE n ⟨b, 0, none⟩ old w hE hc hf).mono ?_
 rintro ev w' ⟨rfl, rfl⟩
 exact ⟨rfl, hit_mk w _ _ _ _ b _ old hc hf⟩
def faultV : List UInt8 ⊕ (Nat × Int) -> Value
 | .inl _ => .agg #[.int .i64 0, .int .i64 0]
 | .inr (p, n) => .agg #[.int .i64 (p : Int), .int .i64 n]
end Go.Proofs.YtdhmpakhdhdebaaGreatDoor
namespace Go.Proofs.YtdhmpakhdhdebaaGreatDoor
open Go.Lib (hid)
open Go.RowKit
set_option maxRecDepth 100000
set_option maxHeartbeats 1600000 in
theorem fault10_l (x : List UInt8 ⊕ (Nat × Int)) (v : Value) (w : World) (hE : ErrType w) (h : ErrIs w v x) :
  Calls Tryz.prog 27 #[v] w fun e w' => e = .returned (faultV x) /\ Below w.heap.size w w' := by
 rcases x with t | ⟨p, n⟩
 ·obtain rfl : v = .nilIface := h
  go_enter Tryz.func27, Tryz.ntmps27
  go_wp2_with fail
  refine bodyPost_ret (v := .agg #[.int .i64 0, .int .i64 0]) (by simp [results, Tryz.results27, go_sem]) rfl ?_
  exact ⟨rfl, (Below.refl _ _).alloc (Nat.le_refl _) _⟩
 obtain ⟨b, rfl, h1, h2⟩ := h
 have AB := hid as_B
 have AE := hid as_E
 have hbl : b < w.heap.size := World.block_lt_of_cell? _ _ h1
 have hgl : 0 < w.heap.size := World.block_lt_of_cell? _ _ hE
 obtain ⟨W3, hW3⟩ : ∃ W3, ((w.alloc (.cells #[.int .i64 0, .int .i64 0] 64)).alloc (.cells #[.pointer none] 91)).alloc (.cells #[.int .i64 0] 74) = W3 := ⟨_, rfl⟩
 have hB3 : Below w.heap.size w W3 := by rw [<- hW3]; exact (((Below.refl w.heap.size w).alloc (Nat.le_refl _) _).alloc (by simp) _).alloc (by simp; omega) _
 have hx1 : Below (w.alloc (.cells #[.int .i64 0, .int .i64 0] 64)).heap.size (w.alloc (.cells #[.int .i64 0, .int .i64 0] 64)) W3 := by rw [<- hW3]; exact ((Below.refl _ _).alloc (Nat.le_refl _) _).alloc (by simp) _
 have hx2 : Below ((w.alloc (.cells #[.int .i64 0, .int .i64 0] 64)).alloc (.cells #[.pointer none] 91)).heap.size ((w.alloc (.cells #[.int .i64 0, .int .i64 0] 64)).alloc (.cells #[.pointer none] 91)) W3 := by rw [<- hW3]; exact (Below.refl _ _).alloc (Nat.le_refl _) _
 have hx3 : Below (((w.alloc (.cells #[.int .i64 0, .int .i64 0] 64)).alloc (.cells #[.pointer none] 91)).alloc (.cells #[.int .i64 0] 74)).heap.size (((w.alloc (.cells #[.int .i64 0, .int .i64 0] 64)).alloc (.cells #[.pointer none] 91)).alloc (.cells #[.int .i64 0] 74)) W3 := by rw [<- hW3]; exact Below.refl _ _
 have a0 : W3.cell? ⟨w.heap.size, 0, none⟩ = some (.int .i64 0) := new_cell hx1 0 _ rfl
 have a1 : W3.cell? ⟨w.heap.size, 1, none⟩ = some (.int .i64 0) := new_cell hx1 1 _ rfl
 have af0 : W3.frozen? ⟨w.heap.size, 0, none⟩ = false := new_frozen hx1 0
 have af1 : W3.frozen? ⟨w.heap.size, 1, none⟩ = false := new_frozen hx1 1
 have b0 : W3.cell? ⟨w.heap.size + 1, 0, none⟩ = some (.pointer none) := by have h := new_cell hx2 0 _ rfl; rw [World.size_alloc] at h; exact h
 have bf0 : W3.frozen? ⟨w.heap.size + 1, 0, none⟩ = false := by have h := new_frozen hx2 0; rw [World.size_alloc] at h; exact h
 have c0 : W3.cell? ⟨w.heap.size + 1 + 1, 0, none⟩ = some (.int .i64 0) := by have h := new_cell hx3 0 _ rfl; rw [World.size_alloc, World.size_alloc] at h; exact h
 have cf0 : W3.frozen? ⟨w.heap.size + 1 + 1, 0, none⟩ = false := by have h := new_frozen hx3 0; rw [World.size_alloc, World.size_alloc] at h; exact h
 have d0 := (hB3.cell hbl).trans h1
 have d1 := (hB3.cell (World.block_lt_of_cell? _ _ h2)).trans h2
 have hE3 : ErrType W3 := hE.below hB3
 have hs3 : W3.heap.size = w.heap.size + 1 + 1 + 1 := by rw [<- hW3]; simp
 have K1 : Hid (∀ w4, Hit W3 w4 (w.heap.size + 1) (.pointer (some ⟨b, 0, none⟩)) -> ErrType w4 /\ w4.cell? ⟨w.heap.size + 1 + 1, 0, none⟩ = some (.int .i64 0) /\ w4.frozen? ⟨w.heap.size + 1 + 1, 0, none⟩ = false /\ w4.cell? ⟨w.heap.size + 1, 0, none⟩ = some (.pointer (some ⟨b, 0, none⟩)) /\ w4.cell? ⟨b, 1, none⟩ = some (.iface 74 (.int .i64 n))) :=
  hid (fun w4 h => ⟨h.cell hE3 (by omega), h.cell c0 (by omega), h.frozen (by omega) cf0 (by omega), h.1, h.cell d1 (by omega)⟩)
 have K2 : Hid (∀ w4 w5, Hit W3 w4 (w.heap.size + 1) (.pointer (some ⟨b, 0, none⟩)) -> Hit w4 w5 (w.heap.size + 1 + 1) (.int .i64 n) -> Below w.heap.size w w5 /\ w5.cell? ⟨w.heap.size, 0, none⟩ = some (.int .i64 0) /\ w5.cell? ⟨w.heap.size, 1, none⟩ = some (.int .i64 0) /\ w5.frozen? ⟨w.heap.size, 0, none⟩ = false /\ w5.frozen? ⟨w.heap.size, 1, none⟩ = false /\ w5.cell? ⟨w.heap.size + 1, 0, none⟩ = some (.pointer (some ⟨b, 0, none⟩)) /\ w5.cell? ⟨w.heap.size + 1 + 1, 0, none⟩ = some (.int .i64 n) /\ w5.cell? ⟨b, 0, none⟩ = some (.int .i64 (p : Int))) :=
  hid (fun w4 w5 h h' => by
   have hs : W3.heap.size <= w4.heap.size := h.2.2.1.size
   exact ⟨(hB3.trans (h.2.2.1.mono (by omega))).trans (h'.2.2.1.mono (by omega)), h'.cell (h.cell a0 (by omega)) (by omega), h'.cell (h.cell a1 (by omega)) (by omega), h'.frozen (by omega) (h.frozen (by omega) af0 (by omega)) (by omega), h'.frozen (by omega) (h.frozen (by omega) af1 (by omega)) (by omega), h'.cell h.1 (by omega), h'.1, h'.cell (h.cell d0 (by omega)) (by omega)⟩)
 clear hx1 hx2 hx3 h1 h2 hB3 a0 a1 af0 af1 c0 cf0 d0 d1 hE hbl hgl
 have HE3 := hid hE3
 clear hE3
 go_enter Tryz.func27, Tryz.ntmps27
 go_wp2_with (first | (go_at_call 38; with_reducible refine (AB.out _ _ _ _ HE3.out b0 bf0).mono ?_; rintro e w4 ⟨rfl, hh4⟩; obtain ⟨hE4, t4, tf4, p4, d4⟩ := K1.out _ hh4; have HH4 := hid hh4; have HE4 := hid hE4; clear hh4 hE4) | (go_at_call 38; with_reducible refine (AE.out _ _ _ _ HE4.out t4 tf4).mono ?_; rintro e w5 ⟨rfl, hh5⟩; obtain ⟨hb5, r0, r1, rf0, rf1, p5, n5, d5⟩ := K2.out _ _ HH4.out hh5; clear hh5) | fail)
 go_region
 go_wp2_with fail
 refine bodyPost_ret (v := .agg #[.int .i64 (p : Int), .int .i64 n]) (by simp [results, Tryz.results27, go_sem, r0, r1]) rfl ⟨rfl, ?_⟩
 repeat first | exact hb5 | refine Below.drew ?_ | refine Below.setCell ?_ (by simp) _
end Go.Proofs.YtdhmpakhdhdebaaGreatDoor
namespace Go.Proofs.YtdhmpakhdhdebaaGreatDoor
open Go.Lib (hid)
open Go.RowKit
set_option maxRecDepth 100000
theorem gErr : Tryz.prog.globalNamed "errors.errorType" = some 0 := by kernel_rfl
theorem rtypeRow : (Tryz.prog.cutTypes.find? (·.1 == "internal/reflectlite.rtype")).map (·.2) = some 168 := by kernel_rfl
theorem oneErrorRow : ((List.range Tryz.prog.types.size).filter fun t => Tryz.prog.rowNamed t [101, 114, 114, 111, 114]) = [37] := by kernel_rfl
theorem errType_of_handles {W : World} {hs : List (String × DataW Unit)} (h : handlesMet Tryz.prog (("errors.errorType", Rows.laid_errors_errorType) :: hs) W) : ErrType W := by
 obtain ⟨name, u, ty, e1, e2, e3, e4, e5⟩ := h _ (List.mem_cons_self ..)
 have en : name = [101, 114, 114, 111, 114] := (Option.some.inj e1).symm
 subst en
 obtain rfl := Option.some.inj (rtypeRow.symm.trans e2)
 have hm : ty ∈ (List.range Tryz.prog.types.size).filter fun t => Tryz.prog.rowNamed t [101, 114, 114, 111, 114] := List.mem_filter.2 ⟨List.mem_range.2 e3, e4⟩
 rw [oneErrorRow] at hm
 obtain rfl := List.mem_singleton.1 hm
 have hh : typeHandle Tryz.prog 37 = .pointer (some ⟨6, 37, none⟩) := by kernel_rfl
 rw [hh] at e5
 unfold ErrType
 simpa using World.var?_cell gErr e5 0
end Go.Proofs.YtdhmpakhdhdebaaGreatDoor
namespace Go.Proofs.YtdhmpakhdhdebaaGreatDoor
open Go.Lib (hid)
open Go.RowKit
set_option maxRecDepth 100000
def utRen : Go.Shelf.Ren := ⟨fun n => n, fun | 5 => 5 | 119 => 274 | 138 => 276 | 139 => 277 | n => n, fun | 3 => 4 | 4 => 5 | n => n⟩
theorem utTypes : U8Types Tryz.prog utRen := ⟨by kernel_rfl, by kernel_rfl, by kernel_rfl, by kernel_rfl⟩
theorem utExtra : U8Extra Tryz.prog utRen := ⟨by kernel_rfl, by kernel_rfl, by kernel_rfl, by kernel_rfl, by kernel_rfl, by kernel_rfl, by kernel_rfl⟩
theorem firstIs : Rows.laid_unicode_utf8_first = Lib.firstData := by kernel_rfl
theorem acceptIs : (Rows.laid_unicode_utf8_acceptRanges : DataW Unit) = Lib.acceptData := by kernel_rfl
theorem utAt_of_reads {W : World} (h3 : Lib.VarReads Tryz.prog W "unicode/utf8.first" Rows.laid_unicode_utf8_first) (h4 : Lib.VarReads Tryz.prog W "unicode/utf8.acceptRanges" Rows.laid_unicode_utf8_acceptRanges) : UtAt W := by
 rw [firstIs] at h3
 rw [acceptIs] at h4
 exact utf8Tabs_of_readsT (ρ := utRen) utTypes utExtra h3 h4
theorem met_parts {W : World} (h : laidMet Tryz.prog [("unicode/utf8.acceptRanges", Rows.laid_unicode_utf8_acceptRanges), ("tessera/names.basesTable", Rows.laid_tessera_names_basesTable), ("unicode/utf8.first", Rows.laid_unicode_utf8_first)] W /\ handlesMet Tryz.prog [("errors.errorType", Rows.laid_errors_errorType)] W) : TabAt W /\ UtAt W /\ ErrType W :=
 ⟨tabAt_of_laid (laidMet_tail h.1), utAt_of_reads (Lib.laidMet.reads h.1 (.tail _ (.tail _ (.head _)))) (Lib.laidMet.reads h.1 (.head _)), errType_of_handles h.2⟩
noncomputable def allWorld (os : Os) : World :=
 { tablesWorld os with heap := (tablesWorld os).heap.modify 0 fun
   | .cells _ t frozen => .cells #[.iface 168 (.agg #[.pointer (some ⟨6, 37, none⟩)])] t frozen
   | o => o }
end Go.Proofs.YtdhmpakhdhdebaaGreatDoor
