/-
  tesseralaw07: number, Seen: contracts. By an AI agent.
-/
import Derived.Test.YtdegonmkikfghaaGreatDoorZEscBack0
import Derived.Test.YtdegonmkikfghaaGreatDoorZEscW
import Derived.Test.YtdegonmkikfghaaGreatDoorZGSpell
import Derived.Test.YtdegonmkikfghaaGreatDoorZGUtf
import Derived.BigQuiet
import Derived.WalkSmall
import Derived.Test.YtdegonmkikfghaaGreatDoorZBuilder
import Derived.Test.YtdegonmkikfghaaGreatDoorZTextW
import Derived.Test.YtdegonmkikfghaaGreatDoorZTermD
import Derived.Test.YtdegonmkikfghaaGreatDoorZUtfCheck
import Derived.Test.YtdegonmkikfghaaGreatDoorZEsc0
import Derived.Test.YtdegonmkikfghaaGreatDoorZNqText
import Derived.Test.YtdegonmkikfghaaGreatDoorZLoadQ
import Derived.Test.YtdegonmkikfghaaGreatDoorZTerm0
import Derived.Laws.Cover1
import Derived.Test.YtdegonmkikfghaaGreatDoorZQuad0
import Derived.WalkLawsBesides
namespace Go.Proofs.YtdegonmkikfghaaGreatDoor
open Go.RowKit
set_option maxRecDepth 100000
theorem assertE (n : Int) (u : World) : (Instr.typeAssert (.iface 26 (.int .i64 n)) 38 26 true).run Tryz.prog u = .ok (.tuple #[.int .i64 n, .bool true]) u := by kernel_rfl
theorem assertEB (a : Option Addr) (u : World) : (Instr.typeAssert (.iface 86 (.pointer a)) 38 26 true).run Tryz.prog u = .ok (.tuple #[.int .i64 0, .bool false]) u := by kernel_rfl
theorem assertBB (a : Option Addr) (u : World) : (Instr.typeAssert (.iface 86 (.pointer a)) 38 86 true).run Tryz.prog u = .ok (.tuple #[.pointer a, .bool true]) u := by kernel_rfl
set_option maxHeartbeats 400000 in
theorem lawNumber_l (n : Int) (w : World) : Calls Tryz.prog 43 #[.iface 26 (.int .i64 n)] w fun e w' => e = .returned (.int .i64 n) /\ w' = w := by
 have TA := fun u => assertE n u
 go_enter Tryz.func43, Tryz.ntmps43
 go_wp2_with fail
 go_ret
 exact ⟨rfl, rfl⟩
set_option maxHeartbeats 800000 in
theorem seen_err (v : Value) (p : Nat) (n : Int) (w : World) (h : ErrIs w v (.inr (p, n))) : Calls Tryz.prog 20 #[v] w fun e w' => e = .returned (.agg #[.int .i64 (p : Int), .int .i64 n]) /\ Below w.heap.size w w' := by
 obtain ⟨b, rfl, h1, h2⟩ := h
 have hb : b < w.heap.size := World.block_lt_of_cell? _ _ h1
 have T1 := fun u => assertEB (some ⟨b, 0, none⟩) u
 have T2 := fun u => assertBB (some ⟨b, 0, none⟩) u
 go_enter Tryz.func20, Tryz.ntmps20
 go_wp2_with fail
 refine region_still 10 (by kernel_rfl) (by kernel_rfl) ?_; simp only [List.take_succ_cons, List.take_zero, List.drop_succ_cons, List.drop_zero]
 repeat (first | still_step | still_call (lawNumber_l _ _))
 refine wpStill_nil ?_
 go_wp2_with fail
 refine bodyPost_ret (v := .agg #[.int .i64 (p : Int), .int .i64 n]) (by simp [results, Tryz.results20, go_sem]) rfl ?_
 exact ⟨rfl, ((Below.refl _ _).alloc (Nat.le_refl _) _).drew⟩
end Go.Proofs.YtdegonmkikfghaaGreatDoor
namespace Go.Proofs.YtdegonmkikfghaaGreatDoor
open Go.RowKit
set_option maxRecDepth 100000
theorem byte_nei {c d : UInt8} (h : c ≠ d) : ((c.toNat : Int) != (d.toNat : Int)) = true := by rw [bne, byte_ne h]; rfl
theorem byte_eqi {c d : UInt8} (h : c = d) : ((c.toNat : Int) != (d.toNat : Int)) = false := by rw [bne, byte_eq h]; rfl
end Go.Proofs.YtdegonmkikfghaaGreatDoor
namespace Go.Proofs.YtdegonmkikfghaaGreatDoor
open Go.RowKit
set_option maxRecDepth 100000
theorem row_quad (w : World) (q : QuadL) (T : TypeId) : RowAt (w.alloc (.cells #[.int .i64 q.s.kind, .string (B q.s.text), .string (B q.s.type), .string (B q.s.lang), .int .i64 q.p.kind, .string (B q.p.text), .string (B q.p.type), .string (B q.p.lang), .int .i64 q.o.kind, .string (B q.o.text), .string (B q.o.type), .string (B q.o.lang), .int .i64 q.g.kind, .string (B q.g.text), .string (B q.g.type), .string (B q.g.lang)] T)) w.heap.size (quadC q) := rowAt_of_heap (L := quadC q) (t := T) (heap_alloc_new _ _)
end Go.Proofs.YtdegonmkikfghaaGreatDoor
