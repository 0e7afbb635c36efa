/-
  errors.As at two concrete targets: a *api.ByteError, an api.Errno. After the kit's worked example of errors.As. By an AI agent.
-/
import Derived.Stop.Asserts
import Derived.RowKitTokens
import Derived.Test.YtdegonmkikfghaaGreatDoorZEscBack0
namespace Go.Proofs.YtdegonmkikfghaaGreatDoor
open Lib (hid)
open Go.RowKit Go.Extern.Stop Go.Stop Go.Extern
set_option maxRecDepth 100000
theorem methodKind (h : Value) (w : World) : (Go.method (Tryz.prog.types.size + 100) 207 (.agg #[h]) "Kind").run Tryz.prog w = .ok (270, h) w := by kernel_rfl
theorem methodElem (h : Value) (w : World) : (Go.method (Tryz.prog.types.size + 100) 207 (.agg #[h]) "Elem").run Tryz.prog w = .ok (283, .agg #[h]) w := by kernel_rfl
theorem methodImplements (h : Value) (w : World) : (Go.method (Tryz.prog.types.size + 100) 207 (.agg #[h]) "Implements").run Tryz.prog w = .ok (284, .agg #[h]) w := by kernel_rfl
theorem methodAssignableTo (h : Value) (w : World) : (Go.method (Tryz.prog.types.size + 100) 207 (.agg #[h]) "AssignableTo").run Tryz.prog w = .ok (281, .agg #[h]) w := by kernel_rfl
theorem typesSize : Tryz.prog.types.size + 100 = 417 := by kernel_rfl
theorem rlm (z : Sem Value) (f : TypeId -> Addr -> Nat -> Nat -> Sem Value) (v : Value) :
  ReflectliteValue.method z f #[v] = (do match <- ReflectliteValue.parts v with | none => z | some (t, a, fl) => f t a fl (fl % 32)) := rfl
theorem rls (v x : Value) : ReflectliteValue.set #[v, x] = (do
  let (some (dst, a, fl), some (src, b, _)) := (<- ReflectliteValue.parts v, <- ReflectliteValue.parts x)
   | unsupported (.noEntry "extern/(internal/reflectlite.Value).Set.zeroValue")
  if fl / ReflectliteValue.flagAddr % 2 == 0 then unsupported (.noEntry "extern/(internal/reflectlite.Value).Set.unaddressable")
  let val <- loadVar src b
  if <- Rtype.directlyAssignable dst src then storeVar dst a val
  else if <- Rtype.implements dst src then
   if (<- Rtype.kind src) == 20 then
    match val with
    | .nilIface => unsupported (.noEntry "extern/reflectlite: a nil value of one interface type handed on as a value of another")
    | _ => storeVar dst a val
   else storeVar dst a (.iface src val)
  else panicString ("reflectlite.Set: value of type " ++ (<- Rtype.spelt src) ++ " is not assignable to type " ++ (<- Rtype.spelt dst))
  pure (.tuple #[])) := rfl
theorem valueOfTB (t : Addr) (w : World) : (ReflectliteValue.unpack (.iface 131 (.pointer (some t)))).run Tryz.prog w
  = .ok (.agg #[.pointer (some ⟨5, 131, none⟩), .pointer (some ⟨w.heap.size, 0, none⟩), .int .u64 150]) (w.alloc (.cells #[.pointer (some t)] 131)) := by kernel_rfl
theorem typeTB (a : Addr) (w : World) : (ReflectliteValue.methodAny (ReflectliteValue.valueError "reflectlite.Value.Type" 0) (fun t _ _ _ => ReflectliteType.toType t) #[.agg #[.pointer (some ⟨5, 131, none⟩), .pointer (some a), .int .u64 150]]).run Tryz.prog w
  = .ok (.iface 207 (.agg #[.pointer (some ⟨5, 131, none⟩)])) w := by kernel_rfl
theorem kindTB (w : World) : ((ReflectliteType.abiMethod fun t => (fun a : Nat => Value.int IntKind.u8 (a : Int)) <$> Rtype.kind t) #[.pointer (some ⟨5, 131, none⟩)]).run Tryz.prog w = .ok (.int .u8 22) w := by kernel_rfl
theorem kindEB (w : World) : ((ReflectliteType.abiMethod fun t => (fun a : Nat => Value.int IntKind.u8 (a : Int)) <$> Rtype.kind t) #[.pointer (some ⟨5, 86, none⟩)]).run Tryz.prog w = .ok (.int .u8 22) w := by kernel_rfl
theorem partsTB (a : Addr) (w : World) : (ReflectliteValue.parts (.agg #[.pointer (some ⟨5, 131, none⟩), .pointer (some a), .int .u64 150])).run Tryz.prog w = .ok (some (131, a, 150)) w := by kernel_rfl
theorem isNilTB (a p : Addr) (W : World) (ha : W.cell? a = some (.pointer (some p))) :
  (ReflectliteValue.method (ReflectliteValue.valueError "reflectlite.Value.IsNil" 0) ReflectliteValue.isNil #[.agg #[.pointer (some ⟨5, 131, none⟩), .pointer (some a), .int .u64 150]]).run Tryz.prog W = .ok (.bool false) W := by
 rw [rlm]
 simp only [Sem.run_bind, partsTB, Result.andThen]
 simp [ReflectliteValue.isNil, loadVar, isAgg, underlying, Tryz.underlying131, ha, Result.andThen]
theorem elemTB (w : World) : (ReflectliteType.method ReflectliteType.elem #[.agg #[.pointer (some ⟨5, 131, none⟩)]]).run Tryz.prog w = .ok (.iface 207 (.agg #[.pointer (some ⟨5, 86, none⟩)])) w := by kernel_rfl
theorem implementsEB (w : World) : (ReflectliteType.relation "Implements" ReflectliteType.implements_ #[.agg #[.pointer (some ⟨5, 86, none⟩)], .iface 207 (.agg #[.pointer (some ⟨5, 38, none⟩)])]).run Tryz.prog w = .ok (.bool true) w := by kernel_rfl
theorem typeOfEB (v : Value) (w : World) : (ReflectliteType.typeOf #[.iface 86 v]).run Tryz.prog w = .ok (.iface 207 (.agg #[.pointer (some ⟨5, 86, none⟩)])) w := by kernel_rfl
theorem assignableEB (w : World) : (ReflectliteType.relation "AssignableTo" ReflectliteType.assignableTo #[.agg #[.pointer (some ⟨5, 86, none⟩)], .iface 207 (.agg #[.pointer (some ⟨5, 86, none⟩)])]).run Tryz.prog w = .ok (.bool true) w := by kernel_rfl
theorem valueOfEB (e : Addr) (w : World) : (ReflectliteValue.unpack (.iface 86 (.pointer (some e)))).run Tryz.prog w
  = .ok (.agg #[.pointer (some ⟨5, 86, none⟩), .pointer (some ⟨w.heap.size, 0, none⟩), .int .u64 150]) (w.alloc (.cells #[(.pointer (some e))] 86)) := by kernel_rfl
theorem elemOfTB (w : World) : (Rtype.elem? 131).run Tryz.prog w = .ok (some 86) w := by kernel_rfl
theorem mkEB (p : Addr) (w : World) : (ReflectliteValue.mk 86 p ReflectliteValue.flagAddr).run Tryz.prog w = .ok (.agg #[.pointer (some ⟨5, 86, none⟩), .pointer (some p), .int .u64 406]) w := by kernel_rfl
theorem elemVTB (a p : Addr) (W : World) (ha : W.cell? a = some (.pointer (some p))) :
  (ReflectliteValue.method (ReflectliteValue.valueError "reflectlite.Value.Elem" 0) ReflectliteValue.elem #[.agg #[.pointer (some ⟨5, 131, none⟩), .pointer (some a), .int .u64 150]]).run Tryz.prog W
   = .ok (.agg #[.pointer (some ⟨5, 86, none⟩), .pointer (some p), .int .u64 406]) W := by
 rw [rlm]
 simp only [Sem.run_bind, partsTB, Result.andThen]
 simp [ReflectliteValue.elem, loadVar, isAgg, underlying, Tryz.underlying131, ha, Result.andThen, elemOfTB, mkEB]
theorem partsEaB (a : Addr) (w : World) : (ReflectliteValue.parts (.agg #[.pointer (some ⟨5, 86, none⟩), .pointer (some a), .int .u64 406])).run Tryz.prog w = .ok (some (86, a, 406)) w := by kernel_rfl
theorem partsEB (a : Addr) (w : World) : (ReflectliteValue.parts (.agg #[.pointer (some ⟨5, 86, none⟩), .pointer (some a), .int .u64 150])).run Tryz.prog w = .ok (some (86, a, 150)) w := by kernel_rfl
theorem directEB (w : World) : (Rtype.directlyAssignable 86 86).run Tryz.prog w = .ok true w := by kernel_rfl
theorem setEB (ta b : Addr) (e : Addr) (old : Value) (W : World) (hb : W.cell? b = some (.pointer (some e))) (ht : W.cell? ta = some old) (hf : W.frozen? ta = false) :
  (ReflectliteValue.set #[.agg #[.pointer (some ⟨5, 86, none⟩), .pointer (some ta), .int .u64 406], .agg #[.pointer (some ⟨5, 86, none⟩), .pointer (some b), .int .u64 150]]).run Tryz.prog W
   = .ok (.tuple #[]) (W.setCell ta (.pointer (some e))) := by
 rw [rls]
 simp only [Sem.run_bind, partsEaB, partsEB, Result.andThen]
 simp [ReflectliteValue.flagAddr, loadVar, isAgg, underlying, Tryz.underlying86, hb, Result.andThen, directEB, storeVar, Value.cells, storeCells, Addr.add]
 rw [run_store Tryz.prog W ta _ _ (by rfl)]
 simp [ht, hf]
set_option maxHeartbeats 4000000 in
theorem as_hitB (e : Addr) (t : Addr) (old : Value) (w : World) (hg : w.cell? ⟨1, 0, none⟩ = some (.iface 207 (.agg #[.pointer (some ⟨5, 38, none⟩)]))) (ht0 : w.cell? t = some old) (hf0 : w.frozen? t = false) :
  Calls Tryz.prog 71 #[.iface 86 (.pointer (some e)), .iface 131 (.pointer (some t))] w fun ev w' => ev = .returned (.bool true) /\ w' = ((((w.alloc (.cells #[.pointer (some t)] 131)).alloc (.cells #[.pointer (some ⟨5, 131, none⟩), .pointer (some ⟨w.heap.size, 0, none⟩), .int .u64 150] 166)).alloc (.cells #[.pointer (some ⟨5, 131, none⟩), .pointer (some ⟨w.heap.size, 0, none⟩), .int .u64 150] 166)).alloc (.cells #[(.pointer (some e))] 86)).setCell t (.pointer (some e)) := by
 have h6 := @run_callFunc_extern Tryz.prog 103 _ (fun args => ReflectliteValue.unpack (args.getD 0 (.tuple #[]))) Tryz.func103 (by kernel_rfl) (by kernel_rfl) (by kernel_rfl) (by kernel_rfl)
 have h7 := @run_callFunc_extern Tryz.prog 104 _ (ReflectliteValue.methodAny (ReflectliteValue.valueError "reflectlite.Value.Type" 0) (fun t _ _ _ => ReflectliteType.toType t)) Tryz.func104 (by kernel_rfl) (by kernel_rfl) (by kernel_rfl) (by kernel_rfl)
 have h8 := @run_callFunc_extern Tryz.prog 105 _ (ReflectliteValue.method (ReflectliteValue.valueError "reflectlite.Value.IsNil" 0) ReflectliteValue.isNil) Tryz.func105 (by kernel_rfl) (by kernel_rfl) (by kernel_rfl) (by kernel_rfl)
 have h27 := @run_callFunc_extern Tryz.prog 270 _ (ReflectliteType.abiMethod fun t => do pure (.int .u8 (<- Rtype.kind t))) Tryz.func270 (by kernel_rfl) (by kernel_rfl) (by kernel_rfl) (by kernel_rfl)
 have h37 := @run_callFunc_extern Tryz.prog 283 _ (ReflectliteType.method ReflectliteType.elem) Tryz.func283 (by kernel_rfl) (by kernel_rfl) (by kernel_rfl) (by kernel_rfl)
 have h38 := @run_callFunc_extern Tryz.prog 284 _ (ReflectliteType.relation "Implements" ReflectliteType.implements_) Tryz.func284 (by kernel_rfl) (by kernel_rfl) (by kernel_rfl) (by kernel_rfl)
 have h10 := @run_callFunc_extern Tryz.prog 146 _ ReflectliteType.typeOf Tryz.func146 (by kernel_rfl) (by kernel_rfl) (by kernel_rfl) (by kernel_rfl)
 have h35 := @run_callFunc_extern Tryz.prog 281 _ (ReflectliteType.relation "AssignableTo" ReflectliteType.assignableTo) Tryz.func281 (by kernel_rfl) (by kernel_rfl) (by kernel_rfl) (by kernel_rfl)
 have h11 := @run_callFunc_extern Tryz.prog 147 _ (ReflectliteValue.method (ReflectliteValue.valueError "reflectlite.Value.Elem" 0) ReflectliteValue.elem) Tryz.func147 (by kernel_rfl) (by kernel_rfl) (by kernel_rfl) (by kernel_rfl)
 have h12 := @run_callFunc_extern Tryz.prog 148 _ ReflectliteValue.set Tryz.func148 (by kernel_rfl) (by kernel_rfl) (by kernel_rfl) (by kernel_rfl)
 have tO := typeOfEB
 have mA := methodAssignableTo
 have mK := methodKind
 have mE := methodElem
 have mI := methodImplements
 rw [typesSize] at mA mK mE mI
 have aE := assignableEB
 have vE := valueOfEB
 have f6 := valueOfTB
 have f7 := typeTB
 have kT := kindTB
 have kE := kindEB
 have eT := elemTB
 have iE := implementsEB
 have n8 := isNilTB ⟨w.heap.size, 0, none⟩ t ((w.alloc (.cells #[.pointer (some t)] 131)).alloc (.cells #[.pointer (some ⟨5, 131, none⟩), .pointer (some ⟨w.heap.size, 0, none⟩), .int .u64 150] 166)) (by simp)
 have hlt : 1 < w.heap.size := World.block_lt_of_cell? _ _ hg
 have hg2 : ((w.alloc (.cells #[.pointer (some t)] 131)).alloc (.cells #[.pointer (some ⟨5, 131, none⟩), .pointer (some ⟨w.heap.size, 0, none⟩), .int .u64 150] 166)).cell? ⟨1, 0, none⟩ = some (.iface 207 (.agg #[.pointer (some ⟨5, 38, none⟩)])) := by
  rw [World.cell?_alloc_lt _ _ ⟨1, 0, none⟩ (by simp; omega), World.cell?_alloc_lt _ _ ⟨1, 0, none⟩ hlt]; exact hg
 have htl : t.block < w.heap.size := by
  rcases Nat.lt_or_ge t.block w.heap.size with h | h
  ·exact h
  ·simp [World.cell?, Array.getElem?_eq_none h] at ht0
 have el := elemVTB ⟨w.heap.size, 0, none⟩ t (((w.alloc (.cells #[.pointer (some t)] 131)).alloc (.cells #[.pointer (some ⟨5, 131, none⟩), .pointer (some ⟨w.heap.size, 0, none⟩), .int .u64 150] 166)).alloc (.cells #[.pointer (some ⟨5, 131, none⟩), .pointer (some ⟨w.heap.size, 0, none⟩), .int .u64 150] 166)) (by rw [World.cell?_alloc_lt _ _ ⟨w.heap.size, 0, none⟩ (by simp; omega)]; simp)
 have st := setEB t ⟨w.heap.size + 1 + 1 + 1, 0, none⟩ e old ((((w.alloc (.cells #[.pointer (some t)] 131)).alloc (.cells #[.pointer (some ⟨5, 131, none⟩), .pointer (some ⟨w.heap.size, 0, none⟩), .int .u64 150] 166)).alloc (.cells #[.pointer (some ⟨5, 131, none⟩), .pointer (some ⟨w.heap.size, 0, none⟩), .int .u64 150] 166)).alloc (.cells #[(.pointer (some e))] 86))
  (by rw [World.cell?_alloc_at _ _ _ _ (by simp)]; rfl)
  (by rw [World.cell?_alloc_lt _ _ t (by simp; omega), World.cell?_alloc_lt _ _ t (by simp; omega), World.cell?_alloc_lt _ _ t (by simp; omega), World.cell?_alloc_lt _ _ t htl]; exact ht0)
  (by rw [World.frozen?_alloc_old _ _ t (by simp; omega), World.frozen?_alloc_old _ _ t (by simp; omega), World.frozen?_alloc_old _ _ t (by simp; omega), World.frozen?_alloc_old _ _ t (Nat.ne_of_lt htl)]; exact hf0)
 go_enter Tryz.func71, Tryz.ntmps71
 go_wp2
 refine wp_loop_rounds 1 ?_
 rw [rounds_succ]
 go_wp2
 go_ret
 exact ⟨rfl, rfl⟩
end Go.Proofs.YtdegonmkikfghaaGreatDoor
namespace Go.Proofs.YtdegonmkikfghaaGreatDoor
open Lib (hid)
open Go.RowKit
set_option maxRecDepth 100000
theorem cell_grown {w w' : World} {row : Option Nat} {b o : Nat} {v : Value} (h : w.cell? ⟨b, o, none⟩ = some v) (hg : w.grownBy w' row) (hne : some b ≠ row) : w'.cell? ⟨b, o, none⟩ = some v := by
 have e := hg.block b (World.block_lt_of_cell? _ _ h) hne
 simpa [World.cell?, e] using h
end Go.Proofs.YtdegonmkikfghaaGreatDoor
namespace Go.Proofs.YtdegonmkikfghaaGreatDoor
open Lib (hid)
open Go.RowKit
set_option maxRecDepth 100000
def ErrType (w : World) : Prop := w.cell? ⟨1, 0, none⟩ = some (.iface 207 (.agg #[.pointer (some ⟨5, 38, none⟩)]))
theorem ErrType.below {w w' : World} (h : ErrType w) (hb : Below w.heap.size w w') : ErrType w' := by
 unfold ErrType
 rw [hb.cell (World.block_lt_of_cell? _ _ h)]
 exact h
theorem grownBy_trans {w v u : World} {r : Option Nat} (h : w.grownBy v r) (h2 : v.grownBy u r) : w.grownBy u r :=
 ⟨h2.1.trans h.1, h2.2.trans h.2, h2.3.trans h.3, Nat.le_trans h.4 h2.4, fun b hb hn => (h2.5 b (Nat.lt_of_lt_of_le hb h.4) hn).trans (h.5 b hb hn)⟩
theorem frozen_grown {w w' : World} {row : Option Nat} {b o : Nat} (h : b < w.heap.size) (hg : w.grownBy w' row) (hne : some b ≠ row) : w'.frozen? ⟨b, o, none⟩ = w.frozen? ⟨b, o, none⟩ := by
 have e := hg.block b h hne
 simp [World.frozen?, e]
def Hit (w w' : World) (b : Nat) (v : Value) : Prop := w'.cell? ⟨b, 0, none⟩ = some v /\ w'.frozen? ⟨b, 0, none⟩ = false /\ Below b w w' /\ w.grownBy w' (some b)
theorem hit_mk (w : World) (o1 o2 o3 o4 : Obj) (b : Nat) (v old : Value) (hc : w.cell? ⟨b, 0, none⟩ = some old) (hf : w.frozen? ⟨b, 0, none⟩ = false) : Hit w (((((w.alloc o1).alloc o2).alloc o3).alloc o4).setCell ⟨b, 0, none⟩ v) b v := by
 have hlt := World.block_lt_of_cell? _ _ hc
 have hB : Below w.heap.size w ((((w.alloc o1).alloc o2).alloc o3).alloc o4) := ((((Below.refl w.heap.size w).alloc (Nat.le_refl _) _).alloc (by simp) _).alloc (by simp; omega) _).alloc (by simp; omega) _
 have hc2 := (hB.cell hlt).trans hc
 have hf2 := (hB.frozen hlt).trans hf
 refine ⟨World.cell?_setCell_same' _ _ _ (by rw [hc2]; rfl), by rw [World.frozen?_setCell]; exact hf2, (hB.mono (Nat.le_of_lt hlt)).setCell (Nat.le_refl _) _, ?_⟩
 exact grownBy_trans (grownBy_trans (grownBy_trans (grownBy_trans (World.grownBy_alloc w o1 _) (World.grownBy_alloc _ o2 _)) (World.grownBy_alloc _ o3 _)) (World.grownBy_alloc _ o4 _)) (grownBy_setCell' _ b v)
theorem Hit.cell {w w' : World} {b c o : Nat} {v x : Value} (h : Hit w w' b v) (hx : w.cell? ⟨c, o, none⟩ = some x) (hne : c ≠ b) : w'.cell? ⟨c, o, none⟩ = some x := cell_grown hx h.2.2.2 (by simpa using hne)
theorem Hit.frozen {w w' : World} {b c o : Nat} {v : Value} (h : Hit w w' b v) (hc : c < w.heap.size) (hx : w.frozen? ⟨c, o, none⟩ = false) (hne : c ≠ b) : w'.frozen? ⟨c, o, none⟩ = false := (frozen_grown hc h.2.2.2 (by simpa using hne)).trans hx
theorem as_B (e : Addr) (b : Nat) (old : Value) (w : World) (hE : ErrType w) (hc : w.cell? ⟨b, 0, none⟩ = some old) (hf : w.frozen? ⟨b, 0, none⟩ = false) :
  Calls Tryz.prog 71 #[.iface 86 (.pointer (some e)), .iface 131 (.pointer (some ⟨b, 0, none⟩))] w fun ev w' => ev = .returned (.bool true) /\ Hit w w' b (.pointer (some e)) := by
 refine (as_hitB e ⟨b, 0, none⟩ old w hE hc hf).mono ?_
 rintro ev w' ⟨rfl, rfl⟩
 exact ⟨rfl, hit_mk w _ _ _ _ b _ old hc hf⟩
end Go.Proofs.YtdegonmkikfghaaGreatDoor
namespace Go.Proofs.YtdegonmkikfghaaGreatDoor
open Lib (hid)
open Go.RowKit
set_option maxRecDepth 100000
set_option maxHeartbeats 1600000 in
theorem nqMoved_l (v : Value) (p d : Nat) (n : Int) (w : World) (hE : ErrType w) (hv : ErrIs w v (.inr (p, n))) (hp : p + d <= 4611686018427387904) :
  Calls Tryz.prog 46 #[v, .int .i64 (d : Int)] w fun e w' => (∃ eb, e = .returned (.iface 86 (.pointer (some ⟨eb, 0, none⟩))) /\ ErrIs w' (.iface 86 (.pointer (some ⟨eb, 0, none⟩))) (.inr (d + p, n))) /\ Below w.heap.size w w' := by
 obtain ⟨b, rfl, h1, h2⟩ := hv
 have hb : b < w.heap.size := World.block_lt_of_cell? _ _ h1
 have hB1 : Below w.heap.size w (w.alloc (.cells #[.pointer none] 86)) := (Below.refl _ _).alloc (Nat.le_refl _) _
 have AB0 := as_B ⟨b, 0, none⟩ w.heap.size (.pointer none) (w.alloc (.cells #[.pointer none] 86)) (hE.below hB1) (by rw [World.cell?_alloc_new]; rfl) (by have := new_frozen (Below.refl _ (w.alloc (.cells #[.pointer none] 86))) 0; exact this)
 have AB := hid AB0
 have KK : Hid (∀ w4, Hit (w.alloc (.cells #[.pointer none] 86)) w4 w.heap.size (.pointer (some ⟨b, 0, none⟩)) -> w4.cell? ⟨w.heap.size, 0, none⟩ = some (.pointer (some ⟨b, 0, none⟩)) /\ w4.cell? ⟨b, 0, none⟩ = some (.int .i64 (p : Int)) /\ w4.cell? ⟨b, 1, none⟩ = some (.iface 26 (.int .i64 n)) /\ Below w.heap.size w w4) := hid (fun w4 h => by
  have hb4 := hB1.trans (h.2.2.1)
  exact ⟨h.1, (hb4.cell (p := ⟨b, 0, none⟩) hb).trans h1, (hb4.cell (p := ⟨b, 1, none⟩) hb).trans h2, hb4⟩)
 clear AB0 hB1 h1 h2 hE
 go_enter Tryz.func46, Tryz.ntmps46
 go_wp2_with (go_at_call 71; (with_reducible refine AB.out.mono ?_); rintro e w4 ⟨rfl, hh⟩; have hk := KK.out w4 hh; have k0 := hk.1; have k1 := hk.2.1; have k2 := hk.2.2.1; have HB4 := hid hk.2.2.2; clear hk hh)
 refine region_still 11 (by kernel_rfl) (by kernel_rfl) ?_; simp only [List.take_succ_cons, List.take_zero, List.drop_succ_cons, List.drop_zero]
 repeat still_step
 refine wpStill_nil ?_
 go_wp2_with fail
 go_ret
 refine ⟨⟨w4.heap.size, rfl, ⟨w4.heap.size, rfl, ?_, ?_⟩⟩, (HB4.out.alloc HB4.out.size _).drew⟩
 ·show (w4.alloc (.cells #[.int .i64 ((p : Int) + (d : Int)), .iface 26 (.int .i64 n)] 88)).cell? ⟨w4.heap.size, 0, none⟩ = _
  rw [World.cell?_alloc_new, show ((p : Int) + (d : Int)) = ((d + p : Nat) : Int) by omega]
  rfl
 ·show (w4.alloc (.cells #[.int .i64 ((p : Int) + (d : Int)), .iface 26 (.int .i64 n)] 88)).cell? ⟨w4.heap.size, 1, none⟩ = _
  rw [World.cell?_alloc_new]
  rfl
end Go.Proofs.YtdegonmkikfghaaGreatDoor
