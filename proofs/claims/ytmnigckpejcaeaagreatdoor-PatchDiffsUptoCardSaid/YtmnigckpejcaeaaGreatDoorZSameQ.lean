/-
  tesseralaw07.SameQuads at two lists that are the same: contract. By an AI agent.
-/
import Derived.Test.YtmnigckpejcaeaaGreatDoorZApp
import Derived.IntWalk
import Derived.Deep.QuietTactic
import Derived.BigQuiet
namespace Go.Proofs.YtmnigckpejcaeaaGreatDoor
open Go.RowKit
set_option maxRecDepth 100000
theorem quadC_arr0 (q : QuadL) : (quadC q).toArray = #[.int .i64 q.s.kind, .string (B q.s.text), .string (B q.s.type), .string (B q.s.lang), .int .i64 q.p.kind, .string (B q.p.text), .string (B q.p.type), .string (B q.p.lang), .int .i64 q.o.kind, .string (B q.o.text), .string (B q.o.type), .string (B q.o.lang), .int .i64 q.g.kind, .string (B q.g.text), .string (B q.g.type), .string (B q.g.lang)] := rfl
set_option maxHeartbeats 1000000 in
theorem neq_self (q : QuadL) (w : World) : (binOp .neq 56 (.agg (quadC q).toArray) (.agg (quadC q).toArray)).run Tryz.prog w = .ok (.bool false) w := by
 obtain ⟨⟨k1, a1, b1, c1⟩, ⟨k2, a2, b2, c2⟩, ⟨k3, a3, b3, c3⟩, ⟨k4, a4, b4, c4⟩⟩ := q
 simp only [quadC, termC, List.cons_append, List.nil_append]
 go_simp
set_option maxHeartbeats 2000000 in
theorem sameQuads_t (l : List QuadL) (v0 v1 : Value) (w : World) (h0 : QView w v0 l) (h1 : QView w v1 l) (hl : l.length <= 4194304) :
   Calls Tryz.prog 19 #[v0, v1] w fun e w' => e = .returned (.bool true) /\ Below w.heap.size w w' := by
 obtain ⟨pa, ca, rfl, _, q0⟩ := h0
 obtain ⟨pb, cb, rfl, _, q1⟩ := h1
 have HA := Lib.hid q0
 have HB := Lib.hid q1
 clear q0 q1
 go_enter Tryz.func19, Tryz.ntmps19
 go_wp2_with fail
 go_loopw [5] (fun i wr => ∃ k : Nat, i = .int .i64 k /\ k <= l.length /\ Below w.heap.size w wr) (fun i _ => l.length - (intOf i).toNat)
 case atStart => exact ⟨0, rfl, Nat.zero_le _, Below.refl _ _⟩
 case round =>
   obtain ⟨k, rfl, hk, hb⟩ := hrel
   by_cases hlt : k < l.length
   · as_aux_lemma =>
     obtain ⟨b, o, rfl⟩ := HA.out.place (by omega)
     obtain ⟨b2, o2, rfl⟩ := HB.out.place (by omega)
     have r1 := (HA.out.below hb).get hlt
     have r2 := (HB.out.below hb).get hlt
     obtain ⟨x, hx⟩ : ∃ x, l[k] = x := ⟨_, rfl⟩
     rw [hx] at r1 r2
     have NE := fun u => neq_self x u
     rw [quadC_arr0] at NE
     obtain ⟨c0, c1, c2, c3, c4, c5, c6, c7, c8, c9, c10, c11, c12, c13, c14, c15⟩ := cells16 r1
     obtain ⟨d0, d1, d2, d3, d4, d5, d6, d7, d8, d9, d10, d11, d12, d13, d14, d15⟩ := cells16 r2
     have BB := Lib.hid hb
     clear hb r1 r2 hx
     have hk3 : (0 : Int) <= (k : Int) := by omega
     go_wp2_with fail
     go_quiet (fail)
     go_wp2_with fail
     go_roundw
     case rel => exact ⟨k + 1, by go_num, hlt, _root_.Go.below_drewN BB.out _⟩
     case measure => simp [intOf]; omega
   · as_aux_lemma =>
     obtain rfl : k = l.length := by omega
     have BB := Lib.hid hb
     clear hb
     go_wp2_with fail
     go_ret
     exact ⟨rfl, BB.out⟩
end Go.Proofs.YtmnigckpejcaeaaGreatDoor
