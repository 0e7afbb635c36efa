/-
  tesseralaw07: number, Seen: contracts. By an AI agent.
-/
import Derived.Test.YtdegonmkikfghaaGreatDoorZEscBack0
namespace Go.Proofs.YtdegonmkikfghaaGreatDoor
open Go.RowKit
set_option maxRecDepth 100000
theorem assertE (n : Int) (u : World) : (Instr.typeAssert (.iface 26 (.int .i64 n)) 38 26 true).run Tryz.prog u = .ok (.tuple #[.int .i64 n, .bool true]) u := by kernel_rfl
theorem assertEB (a : Option Addr) (u : World) : (Instr.typeAssert (.iface 86 (.pointer a)) 38 26 true).run Tryz.prog u = .ok (.tuple #[.int .i64 0, .bool false]) u := by kernel_rfl
theorem assertBB (a : Option Addr) (u : World) : (Instr.typeAssert (.iface 86 (.pointer a)) 38 86 true).run Tryz.prog u = .ok (.tuple #[.pointer a, .bool true]) u := by kernel_rfl
set_option maxHeartbeats 400000 in
theorem lawNumber_l (n : Int) (w : World) : Calls Tryz.prog 43 #[.iface 26 (.int .i64 n)] w fun e w' => e = .returned (.int .i64 n) /\ w' = w := by
 have TA := fun u => assertE n u
 go_enter Tryz.func43, Tryz.ntmps43
 go_wp2_with fail
 go_ret
 exact ⟨rfl, rfl⟩
set_option maxHeartbeats 400000 in
theorem seen_nil (w : World) : Calls Tryz.prog 20 #[.nilIface] w fun e w' => e = .returned (.agg #[.int .i64 0, .int .i64 0]) /\ Below w.heap.size w w' := by
 go_enter Tryz.func20, Tryz.ntmps20
 go_wp2_with fail
 refine bodyPost_ret (v := .agg #[.int .i64 0, .int .i64 0]) (by simp [results, Tryz.results20, go_sem]) rfl ?_
 exact ⟨rfl, (Below.refl _ _).alloc (Nat.le_refl _) _⟩
set_option maxHeartbeats 800000 in
theorem seen_err (v : Value) (p : Nat) (n : Int) (w : World) (h : ErrIs w v (.inr (p, n))) : Calls Tryz.prog 20 #[v] w fun e w' => e = .returned (.agg #[.int .i64 (p : Int), .int .i64 n]) /\ Below w.heap.size w w' := by
 obtain ⟨b, rfl, h1, h2⟩ := h
 have hb : b < w.heap.size := World.block_lt_of_cell? _ _ h1
 have T1 := fun u => assertEB (some ⟨b, 0, none⟩) u
 have T2 := fun u => assertBB (some ⟨b, 0, none⟩) u
 go_enter Tryz.func20, Tryz.ntmps20
 go_wp2_with fail
 refine region_still 10 (by kernel_rfl) (by kernel_rfl) ?_; simp only [List.take_succ_cons, List.take_zero, List.drop_succ_cons, List.drop_zero]
 repeat (first | still_step | still_call (lawNumber_l _ _))
 refine wpStill_nil ?_
 go_wp2_with fail
 refine bodyPost_ret (v := .agg #[.int .i64 (p : Int), .int .i64 n]) (by simp [results, Tryz.results20, go_sem]) rfl ?_
 exact ⟨rfl, ((Below.refl _ _).alloc (Nat.le_refl _) _).drew⟩
end Go.Proofs.YtdegonmkikfghaaGreatDoor
