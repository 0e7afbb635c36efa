/-
  tesseralaw07: number, Seen: contracts. By an AI agent.
-/
import Derived.Test.YtdegonmkikfghaaGreatDoorZEscBack0
import Derived.Test.YtdegonmkikfghaaGreatDoorZRdW1
import Derived.Test.YtdegonmkikfghaaGreatDoorZRef09S
import Derived.Test.YtdegonmkikfghaaGreatDoorZLoadQ
import Derived.Test.YtdegonmkikfghaaGreatDoorZNqText
import Derived.Test.YtdegonmkikfghaaGreatDoorZRefText
import Derived.Test.YtdegonmkikfghaaGreatDoorZLaw
namespace Go.Proofs.YtdegonmkikfghaaGreatDoor
open Go.RowKit
set_option maxRecDepth 100000
theorem assertE (n : Int) (u : World) : (Instr.typeAssert (.iface 26 (.int .i64 n)) 38 26 true).run Tryz.prog u = .ok (.tuple #[.int .i64 n, .bool true]) u := by kernel_rfl
theorem assertEB (a : Option Addr) (u : World) : (Instr.typeAssert (.iface 86 (.pointer a)) 38 26 true).run Tryz.prog u = .ok (.tuple #[.int .i64 0, .bool false]) u := by kernel_rfl
theorem assertBB (a : Option Addr) (u : World) : (Instr.typeAssert (.iface 86 (.pointer a)) 38 86 true).run Tryz.prog u = .ok (.tuple #[.pointer a, .bool true]) u := by kernel_rfl
set_option maxHeartbeats 400000 in
theorem lawNumber_l (n : Int) (w : World) : Calls Tryz.prog 43 #[.iface 26 (.int .i64 n)] w fun e w' => e = .returned (.int .i64 n) /\ w' = w := by
 have TA := fun u => assertE n u
 go_enter Tryz.func43, Tryz.ntmps43
 go_wp2_with fail
 go_ret
 exact ⟨rfl, rfl⟩
set_option maxHeartbeats 400000 in
theorem seen_nil (w : World) : Calls Tryz.prog 20 #[.nilIface] w fun e w' => e = .returned (.agg #[.int .i64 0, .int .i64 0]) /\ Below w.heap.size w w' := by
 go_enter Tryz.func20, Tryz.ntmps20
 go_wp2_with fail
 refine bodyPost_ret (v := .agg #[.int .i64 0, .int .i64 0]) (by simp [results, Tryz.results20, go_sem]) rfl ?_
 exact ⟨rfl, (Below.refl _ _).alloc (Nat.le_refl _) _⟩
set_option maxHeartbeats 800000 in
theorem seen_err (v : Value) (p : Nat) (n : Int) (w : World) (h : ErrIs w v (.inr (p, n))) : Calls Tryz.prog 20 #[v] w fun e w' => e = .returned (.agg #[.int .i64 (p : Int), .int .i64 n]) /\ Below w.heap.size w w' := by
 obtain ⟨b, rfl, h1, h2⟩ := h
 have hb : b < w.heap.size := World.block_lt_of_cell? _ _ h1
 have T1 := fun u => assertEB (some ⟨b, 0, none⟩) u
 have T2 := fun u => assertBB (some ⟨b, 0, none⟩) u
 go_enter Tryz.func20, Tryz.ntmps20
 go_wp2_with fail
 refine region_still 10 (by kernel_rfl) (by kernel_rfl) ?_; simp only [List.take_succ_cons, List.take_zero, List.drop_succ_cons, List.drop_zero]
 repeat (first | still_step | still_call (lawNumber_l _ _))
 refine wpStill_nil ?_
 go_wp2_with fail
 refine bodyPost_ret (v := .agg #[.int .i64 (p : Int), .int .i64 n]) (by simp [results, Tryz.results20, go_sem]) rfl ?_
 exact ⟨rfl, ((Below.refl _ _).alloc (Nat.le_refl _) _).drew⟩
end Go.Proofs.YtdegonmkikfghaaGreatDoor
namespace Go.Proofs.YtdegonmkikfghaaGreatDoor
open Go.RowKit
set_option maxRecDepth 100000
theorem eql_flt (a b : Int) (w : World) : (binOp .eql 42 (.agg #[.int .i64 a, .int .i64 b]) (.agg #[.int .i64 a, .int .i64 b])).run Tryz.prog w = .ok (.bool true) w := by
 go_simp
structure LwMem (w u : World) (q : QuadL) (g5 : Nat) (x : QuadL) : Prop where
 b : Below w.heap.size w u
 q : u.heap[w.heap.size]? = some (.cells (quadC q).toArray 36 (0, 0))
 x : u.heap[g5]? = some (.cells (quadC x).toArray 36 (0, 0))
theorem LwMem.below {w u u' : World} {q x : QuadL} {g5 : Nat} (h : LwMem w u q g5 x) (hb : Below u.heap.size u u') : LwMem w u' q g5 x :=
 ⟨h.b.trans (hb.mono h.b.size), (hb.block _ (Array.getElem?_eq_some_iff.1 h.q).1).trans h.q, (hb.block _ (Array.getElem?_eq_some_iff.1 h.x).1).trans h.x⟩
structure LxMem (w u : World) (q : QuadL) (g5 g8 g10 : Nat) (x : QuadL) (a b : Int) : Prop where
 l : LwMem w u q g5 x
 y : u.heap[g8]? = some (.cells (quadC x).toArray 36 (0, 0))
 f : RowAt u g10 [.int .i64 a, .int .i64 b]
theorem LxMem.below {w u u' : World} {q x : QuadL} {g5 g8 g10 : Nat} {a b : Int} (h : LxMem w u q g5 g8 g10 x a b) (hb : Below u.heap.size u u') : LxMem w u' q g5 g8 g10 x a b :=
 ⟨h.l.below hb, (hb.block _ (Array.getElem?_eq_some_iff.1 h.y).1).trans h.y, rowAt_below h.f hb⟩
set_option maxHeartbeats 12000000 in
theorem lines_n (l : List UInt8) (q : QuadL) (w : World) (hT : TabAt w) (hM : MaxAt w) (hS : Short q) (hl : l.length <= 1048576) (hx : lineAt l = .inl none) :
   Calls Tryz.prog 4 #[.string (B l), qv q] w fun e w' => e = .returned (.bool true) /\ Below w.heap.size w w' := by
 have hA : Below w.heap.size w (w.alloc (.cells #[.int .i64 q.s.kind, .string (B q.s.text), .string (B q.s.type), .string (B q.s.lang), .int .i64 q.p.kind, .string (B q.p.text), .string (B q.p.type), .string (B q.p.lang), .int .i64 q.o.kind, .string (B q.o.text), .string (B q.o.type), .string (B q.o.lang), .int .i64 q.g.kind, .string (B q.g.text), .string (B q.g.type), .string (B q.g.lang)] 36)) := (Below.refl _ _).alloc (Nat.le_refl _) _
 have HA := Lib.hid hA
 have LE := Lib.hid (lineE_l l (w.alloc (.cells #[.int .i64 q.s.kind, .string (B q.s.text), .string (B q.s.type), .string (B q.s.lang), .int .i64 q.p.kind, .string (B q.p.text), .string (B q.p.type), .string (B q.p.lang), .int .i64 q.o.kind, .string (B q.o.text), .string (B q.o.type), .string (B q.o.lang), .int .i64 q.g.kind, .string (B q.g.text), .string (B q.g.type), .string (B q.g.lang)] 36)) (hT.below hA) (hM.below hA) (by omega))
 have RL := Lib.hid (fun u => refLineE_l l u (by omega))
 have TX := Lib.hid (fun (u : World) (hb : Below w.heap.size w u) => nqTextE_l q u (hT.below hb) (hM.below hb) hS)
 have RT := Lib.hid (fun (u : World) => ref09Text_l q u hS)
 have HQ0 : Hid (∀ u, Below (w.alloc (.cells #[.int .i64 q.s.kind, .string (B q.s.text), .string (B q.s.type), .string (B q.s.lang), .int .i64 q.p.kind, .string (B q.p.text), .string (B q.p.type), .string (B q.p.lang), .int .i64 q.o.kind, .string (B q.o.text), .string (B q.o.type), .string (B q.o.lang), .int .i64 q.g.kind, .string (B q.g.text), .string (B q.g.type), .string (B q.g.lang)] 36)).heap.size (w.alloc (.cells #[.int .i64 q.s.kind, .string (B q.s.text), .string (B q.s.type), .string (B q.s.lang), .int .i64 q.p.kind, .string (B q.p.text), .string (B q.p.type), .string (B q.p.lang), .int .i64 q.o.kind, .string (B q.o.text), .string (B q.o.type), .string (B q.o.lang), .int .i64 q.g.kind, .string (B q.g.text), .string (B q.g.type), .string (B q.g.lang)] 36)) u -> Below w.heap.size w u /\ u.heap[w.heap.size]? = some (.cells (quadC q).toArray 36 (0, 0))) := Lib.hid (fun u hu => by
   refine ⟨hA.trans (hu.mono hA.size), ?_⟩
   rw [hu.block w.heap.size (by simp)]
   exact heap_alloc_new _ _)
 have EF := eql_flt
 obtain ⟨tn, htn⟩ : ∃ z : List UInt8 × Int, lineN q = z := ⟨_, rfl⟩
 rw [htn] at TX RT
 obtain ⟨tx, te⟩ := tn
 clear htn
 rw [hx] at LE RL
 clear hT hM hS hA hx
 have SN := Lib.hid (fun (u : World) => seen_nil u)
 have RL : Hid (∀ u, Calls Tryz.prog 17 #[.string (B l)] u fun e w' => e = .returned (.tuple #[qv noQuad, .bool false, .agg #[.int .i64 0, .int .i64 0]]) /\ Below u.heap.size u w') := RL
 have EQ := fun u => eql_q noQuad noQuad u
 rw [decide_eq_true rfl] at EQ
 go_enter Tryz.func4, Tryz.ntmps4
 go_wp2_with (first
   | (go_at_call 16; (refine LE.out.mono ?_); rintro e w2 ⟨rfl, hb2⟩; obtain ⟨hbb, hq⟩ := HQ0.out w2 hb2; have HB2 := Lib.hid hbb; have HQ2 := Lib.hid hq; clear hb2 hbb hq)
   | (refine wpList_store_quad rfl (.tmp 5) (.tmp 18) rfl w2.heap.size rfl noQuad rfl 36 (quadC noQuad).toArray rfl (heap_alloc_new w2 _) ?_; rw [World.setRow_alloc_new]; have HB3 := Lib.hid (HB2.out.alloc HB2.out.size (.cells (quadC noQuad).toArray 36)); have HM3 : Hid (LwMem w (w2.alloc (.cells (quadC noQuad).toArray 36)) q w2.heap.size noQuad) := Lib.hid ⟨HB3.out, (heap_alloc_old _ _ (Array.getElem?_eq_some_iff.1 HQ2.out).1).trans HQ2.out, heap_alloc_new w2 _⟩)
   | (go_at_call 17; (with_reducible refine (RL.out _).mono ?_); rintro e w4 ⟨rfl, hb4⟩; have HM4 := Lib.hid (HM3.out.below hb4); clear hb4)
   | (refine wpList_store_quad rfl (.tmp 8) (.tmp 24) rfl w4.heap.size rfl noQuad rfl 36 (quadC noQuad).toArray rfl ((heap_alloc_old _ _ (by simp)).trans (heap_alloc_new w4 _)) ?_; rw [setRow_alloc_2]; have HM5 : Hid (LxMem w ((w4.alloc (.cells (quadC noQuad).toArray 36)).alloc (.cells #[.int .i64 0, .int .i64 0] 42)) q w2.heap.size w4.heap.size (w4.heap.size + 1) noQuad 0 0) := Lib.hid ⟨(HM4.out.below ((Below.refl _ _).alloc (Nat.le_refl _) _)).below ((Below.refl _ _).alloc (Nat.le_refl _) _), (heap_alloc_old _ _ (by simp)).trans (heap_alloc_new w4 _), by have h := rowAt_of_heap (L := [.int .i64 0, .int .i64 0]) (heap_alloc_new (w4.alloc (.cells (quadC noQuad).toArray 36)) (.cells #[.int .i64 0, .int .i64 0] 42)); rwa [World.size_alloc] at h⟩)
   | (refine wpList_load_quad rfl (.tmp 3) rfl w.heap.size 0 rfl q (range_row HM5.out.l.q) ?_)
   | (refine wpList_load_quad rfl (.tmp 3) rfl w.heap.size 0 rfl q (range_row HM6.out.l.q) ?_)
   | (go_at_call 18; (with_reducible refine (TX.out _ HM5.out.l.b).mono ?_); rintro e w6 ⟨rfl, hb6⟩; have HM6 := Lib.hid (HM5.out.below hb6); clear hb6)
   | (go_at_call 19; (with_reducible refine (RT.out _).mono ?_); rintro e w7 ⟨rfl, hb7⟩; have HM7 := Lib.hid (HM6.out.below hb7); clear hb7))
 have SB : Hid (∀ w', Below w7.heap.size w7 w' -> w'.cell? ⟨w2.heap.size, 0, none⟩ = some (.int .i64 noQuad.s.kind) /\ w'.cell? ⟨w2.heap.size, 1, none⟩ = some (.string (B noQuad.s.text)) /\ w'.cell? ⟨w2.heap.size, 2, none⟩ = some (.string (B noQuad.s.type)) /\ w'.cell? ⟨w2.heap.size, 3, none⟩ = some (.string (B noQuad.s.lang)) /\ w'.cell? ⟨w2.heap.size, 4, none⟩ = some (.int .i64 noQuad.p.kind) /\ w'.cell? ⟨w2.heap.size, 5, none⟩ = some (.string (B noQuad.p.text)) /\ w'.cell? ⟨w2.heap.size, 6, none⟩ = some (.string (B noQuad.p.type)) /\ w'.cell? ⟨w2.heap.size, 7, none⟩ = some (.string (B noQuad.p.lang)) /\ w'.cell? ⟨w2.heap.size, 8, none⟩ = some (.int .i64 noQuad.o.kind) /\ w'.cell? ⟨w2.heap.size, 9, none⟩ = some (.string (B noQuad.o.text)) /\ w'.cell? ⟨w2.heap.size, 10, none⟩ = some (.string (B noQuad.o.type)) /\ w'.cell? ⟨w2.heap.size, 11, none⟩ = some (.string (B noQuad.o.lang)) /\ w'.cell? ⟨w2.heap.size, 12, none⟩ = some (.int .i64 noQuad.g.kind) /\ w'.cell? ⟨w2.heap.size, 13, none⟩ = some (.string (B noQuad.g.text)) /\ w'.cell? ⟨w2.heap.size, 14, none⟩ = some (.string (B noQuad.g.type)) /\ w'.cell? ⟨w2.heap.size, 15, none⟩ = some (.string (B noQuad.g.lang)) /\ w'.cell? ⟨w4.heap.size, 0, none⟩ = some (.int .i64 noQuad.s.kind) /\ w'.cell? ⟨w4.heap.size, 1, none⟩ = some (.string (B noQuad.s.text)) /\ w'.cell? ⟨w4.heap.size, 2, none⟩ = some (.string (B noQuad.s.type)) /\ w'.cell? ⟨w4.heap.size, 3, none⟩ = some (.string (B noQuad.s.lang)) /\ w'.cell? ⟨w4.heap.size, 4, none⟩ = some (.int .i64 noQuad.p.kind) /\ w'.cell? ⟨w4.heap.size, 5, none⟩ = some (.string (B noQuad.p.text)) /\ w'.cell? ⟨w4.heap.size, 6, none⟩ = some (.string (B noQuad.p.type)) /\ w'.cell? ⟨w4.heap.size, 7, none⟩ = some (.string (B noQuad.p.lang)) /\ w'.cell? ⟨w4.heap.size, 8, none⟩ = some (.int .i64 noQuad.o.kind) /\ w'.cell? ⟨w4.heap.size, 9, none⟩ = some (.string (B noQuad.o.text)) /\ w'.cell? ⟨w4.heap.size, 10, none⟩ = some (.string (B noQuad.o.type)) /\ w'.cell? ⟨w4.heap.size, 11, none⟩ = some (.string (B noQuad.o.lang)) /\ w'.cell? ⟨w4.heap.size, 12, none⟩ = some (.int .i64 noQuad.g.kind) /\ w'.cell? ⟨w4.heap.size, 13, none⟩ = some (.string (B noQuad.g.text)) /\ w'.cell? ⟨w4.heap.size, 14, none⟩ = some (.string (B noQuad.g.type)) /\ w'.cell? ⟨w4.heap.size, 15, none⟩ = some (.string (B noQuad.g.lang)) /\ w'.cell? ⟨w4.heap.size + 1, 0, none⟩ = some (.int .i64 0) /\ w'.cell? ⟨w4.heap.size + 1, 1, none⟩ = some (.int .i64 0)) := Lib.hid (fun w' h => by
   have HM := HM7.out.below h
   obtain ⟨x0, x1, x2, x3, x4, x5, x6, x7, x8, x9, x10, x11, x12, x13, x14, x15⟩ := cells16 (range_row HM.l.x)
   obtain ⟨y0, y1, y2, y3, y4, y5, y6, y7, y8, y9, y10, y11, y12, y13, y14, y15⟩ := cells16 (range_row HM.y)
   simp only [Nat.zero_add] at x1 x2 x3 x4 x5 x6 x7 x8 x9 x10 x11 x12 x13 x14 x15 y1 y2 y3 y4 y5 y6 y7 y8 y9 y10 y11 y12 y13 y14 y15
   obtain ⟨f0, f1, _, _, _⟩ := row_two HM.f
   exact ⟨x0, x1, x2, x3, x4, x5, x6, x7, x8, x9, x10, x11, x12, x13, x14, x15, y0, y1, y2, y3, y4, y5, y6, y7, y8, y9, y10, y11, y12, y13, y14, y15, f0, f1⟩)
 have HB7 : Hid (Below w7.heap.size w7 w7.drew) := Lib.hid (below_drewN w7 1)
 have HBW := Lib.hid HM7.out.l.b
 go_region_held3 (fun w' => w'.cell? ⟨w2.heap.size, 0, none⟩ = some (.int .i64 noQuad.s.kind) /\ w'.cell? ⟨w2.heap.size, 1, none⟩ = some (.string (B noQuad.s.text)) /\ w'.cell? ⟨w2.heap.size, 2, none⟩ = some (.string (B noQuad.s.type)) /\ w'.cell? ⟨w2.heap.size, 3, none⟩ = some (.string (B noQuad.s.lang)) /\ w'.cell? ⟨w2.heap.size, 4, none⟩ = some (.int .i64 noQuad.p.kind) /\ w'.cell? ⟨w2.heap.size, 5, none⟩ = some (.string (B noQuad.p.text)) /\ w'.cell? ⟨w2.heap.size, 6, none⟩ = some (.string (B noQuad.p.type)) /\ w'.cell? ⟨w2.heap.size, 7, none⟩ = some (.string (B noQuad.p.lang)) /\ w'.cell? ⟨w2.heap.size, 8, none⟩ = some (.int .i64 noQuad.o.kind) /\ w'.cell? ⟨w2.heap.size, 9, none⟩ = some (.string (B noQuad.o.text)) /\ w'.cell? ⟨w2.heap.size, 10, none⟩ = some (.string (B noQuad.o.type)) /\ w'.cell? ⟨w2.heap.size, 11, none⟩ = some (.string (B noQuad.o.lang)) /\ w'.cell? ⟨w2.heap.size, 12, none⟩ = some (.int .i64 noQuad.g.kind) /\ w'.cell? ⟨w2.heap.size, 13, none⟩ = some (.string (B noQuad.g.text)) /\ w'.cell? ⟨w2.heap.size, 14, none⟩ = some (.string (B noQuad.g.type)) /\ w'.cell? ⟨w2.heap.size, 15, none⟩ = some (.string (B noQuad.g.lang)) /\ w'.cell? ⟨w4.heap.size, 0, none⟩ = some (.int .i64 noQuad.s.kind) /\ w'.cell? ⟨w4.heap.size, 1, none⟩ = some (.string (B noQuad.s.text)) /\ w'.cell? ⟨w4.heap.size, 2, none⟩ = some (.string (B noQuad.s.type)) /\ w'.cell? ⟨w4.heap.size, 3, none⟩ = some (.string (B noQuad.s.lang)) /\ w'.cell? ⟨w4.heap.size, 4, none⟩ = some (.int .i64 noQuad.p.kind) /\ w'.cell? ⟨w4.heap.size, 5, none⟩ = some (.string (B noQuad.p.text)) /\ w'.cell? ⟨w4.heap.size, 6, none⟩ = some (.string (B noQuad.p.type)) /\ w'.cell? ⟨w4.heap.size, 7, none⟩ = some (.string (B noQuad.p.lang)) /\ w'.cell? ⟨w4.heap.size, 8, none⟩ = some (.int .i64 noQuad.o.kind) /\ w'.cell? ⟨w4.heap.size, 9, none⟩ = some (.string (B noQuad.o.text)) /\ w'.cell? ⟨w4.heap.size, 10, none⟩ = some (.string (B noQuad.o.type)) /\ w'.cell? ⟨w4.heap.size, 11, none⟩ = some (.string (B noQuad.o.lang)) /\ w'.cell? ⟨w4.heap.size, 12, none⟩ = some (.int .i64 noQuad.g.kind) /\ w'.cell? ⟨w4.heap.size, 13, none⟩ = some (.string (B noQuad.g.text)) /\ w'.cell? ⟨w4.heap.size, 14, none⟩ = some (.string (B noQuad.g.type)) /\ w'.cell? ⟨w4.heap.size, 15, none⟩ = some (.string (B noQuad.g.lang)) /\ w'.cell? ⟨w4.heap.size + 1, 0, none⟩ = some (.int .i64 0) /\ w'.cell? ⟨w4.heap.size + 1, 1, none⟩ = some (.int .i64 0)) (exact SB.out _ HB7.out)
   (first | (go_at_call 20; (with_reducible refine (SN.out _).mono ?_); rintro e w8 ⟨rfl, hb8⟩; have HB8 := Lib.hid (HB7.out.trans (hb8.mono HB7.out.size)); clear HB7 hb8; have HB7 := HB8; clear HB8))
 go_wp2_with fail
 go_ret
 exact ⟨rfl, HBW.out.trans (HB7.out.mono HBW.out.size)⟩
set_option maxHeartbeats 12000000 in
theorem lines_s (x : QuadL) (l : List UInt8) (q : QuadL) (w : World) (hT : TabAt w) (hM : MaxAt w) (hS : Short q) (hl : l.length <= 1048576) (hx : lineAt l = .inl (some x)) :
   Calls Tryz.prog 4 #[.string (B l), qv q] w fun e w' => e = .returned (.bool true) /\ Below w.heap.size w w' := by
 have hA : Below w.heap.size w (w.alloc (.cells #[.int .i64 q.s.kind, .string (B q.s.text), .string (B q.s.type), .string (B q.s.lang), .int .i64 q.p.kind, .string (B q.p.text), .string (B q.p.type), .string (B q.p.lang), .int .i64 q.o.kind, .string (B q.o.text), .string (B q.o.type), .string (B q.o.lang), .int .i64 q.g.kind, .string (B q.g.text), .string (B q.g.type), .string (B q.g.lang)] 36)) := (Below.refl _ _).alloc (Nat.le_refl _) _
 have HA := Lib.hid hA
 have LE := Lib.hid (lineE_l l (w.alloc (.cells #[.int .i64 q.s.kind, .string (B q.s.text), .string (B q.s.type), .string (B q.s.lang), .int .i64 q.p.kind, .string (B q.p.text), .string (B q.p.type), .string (B q.p.lang), .int .i64 q.o.kind, .string (B q.o.text), .string (B q.o.type), .string (B q.o.lang), .int .i64 q.g.kind, .string (B q.g.text), .string (B q.g.type), .string (B q.g.lang)] 36)) (hT.below hA) (hM.below hA) (by omega))
 have RL := Lib.hid (fun u => refLineE_l l u (by omega))
 have TX := Lib.hid (fun (u : World) (hb : Below w.heap.size w u) => nqTextE_l q u (hT.below hb) (hM.below hb) hS)
 have RT := Lib.hid (fun (u : World) => ref09Text_l q u hS)
 have HQ0 : Hid (∀ u, Below (w.alloc (.cells #[.int .i64 q.s.kind, .string (B q.s.text), .string (B q.s.type), .string (B q.s.lang), .int .i64 q.p.kind, .string (B q.p.text), .string (B q.p.type), .string (B q.p.lang), .int .i64 q.o.kind, .string (B q.o.text), .string (B q.o.type), .string (B q.o.lang), .int .i64 q.g.kind, .string (B q.g.text), .string (B q.g.type), .string (B q.g.lang)] 36)).heap.size (w.alloc (.cells #[.int .i64 q.s.kind, .string (B q.s.text), .string (B q.s.type), .string (B q.s.lang), .int .i64 q.p.kind, .string (B q.p.text), .string (B q.p.type), .string (B q.p.lang), .int .i64 q.o.kind, .string (B q.o.text), .string (B q.o.type), .string (B q.o.lang), .int .i64 q.g.kind, .string (B q.g.text), .string (B q.g.type), .string (B q.g.lang)] 36)) u -> Below w.heap.size w u /\ u.heap[w.heap.size]? = some (.cells (quadC q).toArray 36 (0, 0))) := Lib.hid (fun u hu => by
   refine ⟨hA.trans (hu.mono hA.size), ?_⟩
   rw [hu.block w.heap.size (by simp)]
   exact heap_alloc_new _ _)
 have EF := eql_flt
 obtain ⟨tn, htn⟩ : ∃ z : List UInt8 × Int, lineN q = z := ⟨_, rfl⟩
 rw [htn] at TX RT
 obtain ⟨tx, te⟩ := tn
 clear htn
 rw [hx] at LE RL
 clear hT hM hS hA hx
 have SN := Lib.hid (fun (u : World) => seen_nil u)
 have RL : Hid (∀ u, Calls Tryz.prog 17 #[.string (B l)] u fun e w' => e = .returned (.tuple #[qv x, .bool true, .agg #[.int .i64 0, .int .i64 0]]) /\ Below u.heap.size u w') := RL
 have EQ := fun u => eql_q x x u
 rw [decide_eq_true rfl] at EQ
 go_enter Tryz.func4, Tryz.ntmps4
 go_wp2_with (first
   | (go_at_call 16; (refine LE.out.mono ?_); rintro e w2 ⟨rfl, hb2⟩; obtain ⟨hbb, hq⟩ := HQ0.out w2 hb2; have HB2 := Lib.hid hbb; have HQ2 := Lib.hid hq; clear hb2 hbb hq)
   | (refine wpList_store_quad rfl (.tmp 5) (.tmp 18) rfl w2.heap.size rfl x rfl 36 (quadC noQuad).toArray rfl (heap_alloc_new w2 _) ?_; rw [World.setRow_alloc_new]; have HB3 := Lib.hid (HB2.out.alloc HB2.out.size (.cells (quadC x).toArray 36)); have HM3 : Hid (LwMem w (w2.alloc (.cells (quadC x).toArray 36)) q w2.heap.size x) := Lib.hid ⟨HB3.out, (heap_alloc_old _ _ (Array.getElem?_eq_some_iff.1 HQ2.out).1).trans HQ2.out, heap_alloc_new w2 _⟩)
   | (go_at_call 17; (with_reducible refine (RL.out _).mono ?_); rintro e w4 ⟨rfl, hb4⟩; have HM4 := Lib.hid (HM3.out.below hb4); clear hb4)
   | (refine wpList_store_quad rfl (.tmp 8) (.tmp 24) rfl w4.heap.size rfl x rfl 36 (quadC noQuad).toArray rfl ((heap_alloc_old _ _ (by simp)).trans (heap_alloc_new w4 _)) ?_; rw [setRow_alloc_2]; have HM5 : Hid (LxMem w ((w4.alloc (.cells (quadC x).toArray 36)).alloc (.cells #[.int .i64 0, .int .i64 0] 42)) q w2.heap.size w4.heap.size (w4.heap.size + 1) x 0 0) := Lib.hid ⟨(HM4.out.below ((Below.refl _ _).alloc (Nat.le_refl _) _)).below ((Below.refl _ _).alloc (Nat.le_refl _) _), (heap_alloc_old _ _ (by simp)).trans (heap_alloc_new w4 _), by have h := rowAt_of_heap (L := [.int .i64 0, .int .i64 0]) (heap_alloc_new (w4.alloc (.cells (quadC x).toArray 36)) (.cells #[.int .i64 0, .int .i64 0] 42)); rwa [World.size_alloc] at h⟩)
   | (refine wpList_load_quad rfl (.tmp 3) rfl w.heap.size 0 rfl q (range_row HM5.out.l.q) ?_)
   | (refine wpList_load_quad rfl (.tmp 3) rfl w.heap.size 0 rfl q (range_row HM6.out.l.q) ?_)
   | (go_at_call 18; (with_reducible refine (TX.out _ HM5.out.l.b).mono ?_); rintro e w6 ⟨rfl, hb6⟩; have HM6 := Lib.hid (HM5.out.below hb6); clear hb6)
   | (go_at_call 19; (with_reducible refine (RT.out _).mono ?_); rintro e w7 ⟨rfl, hb7⟩; have HM7 := Lib.hid (HM6.out.below hb7); clear hb7))
 have SB : Hid (∀ w', Below w7.heap.size w7 w' -> w'.cell? ⟨w2.heap.size, 0, none⟩ = some (.int .i64 x.s.kind) /\ w'.cell? ⟨w2.heap.size, 1, none⟩ = some (.string (B x.s.text)) /\ w'.cell? ⟨w2.heap.size, 2, none⟩ = some (.string (B x.s.type)) /\ w'.cell? ⟨w2.heap.size, 3, none⟩ = some (.string (B x.s.lang)) /\ w'.cell? ⟨w2.heap.size, 4, none⟩ = some (.int .i64 x.p.kind) /\ w'.cell? ⟨w2.heap.size, 5, none⟩ = some (.string (B x.p.text)) /\ w'.cell? ⟨w2.heap.size, 6, none⟩ = some (.string (B x.p.type)) /\ w'.cell? ⟨w2.heap.size, 7, none⟩ = some (.string (B x.p.lang)) /\ w'.cell? ⟨w2.heap.size, 8, none⟩ = some (.int .i64 x.o.kind) /\ w'.cell? ⟨w2.heap.size, 9, none⟩ = some (.string (B x.o.text)) /\ w'.cell? ⟨w2.heap.size, 10, none⟩ = some (.string (B x.o.type)) /\ w'.cell? ⟨w2.heap.size, 11, none⟩ = some (.string (B x.o.lang)) /\ w'.cell? ⟨w2.heap.size, 12, none⟩ = some (.int .i64 x.g.kind) /\ w'.cell? ⟨w2.heap.size, 13, none⟩ = some (.string (B x.g.text)) /\ w'.cell? ⟨w2.heap.size, 14, none⟩ = some (.string (B x.g.type)) /\ w'.cell? ⟨w2.heap.size, 15, none⟩ = some (.string (B x.g.lang)) /\ w'.cell? ⟨w4.heap.size, 0, none⟩ = some (.int .i64 x.s.kind) /\ w'.cell? ⟨w4.heap.size, 1, none⟩ = some (.string (B x.s.text)) /\ w'.cell? ⟨w4.heap.size, 2, none⟩ = some (.string (B x.s.type)) /\ w'.cell? ⟨w4.heap.size, 3, none⟩ = some (.string (B x.s.lang)) /\ w'.cell? ⟨w4.heap.size, 4, none⟩ = some (.int .i64 x.p.kind) /\ w'.cell? ⟨w4.heap.size, 5, none⟩ = some (.string (B x.p.text)) /\ w'.cell? ⟨w4.heap.size, 6, none⟩ = some (.string (B x.p.type)) /\ w'.cell? ⟨w4.heap.size, 7, none⟩ = some (.string (B x.p.lang)) /\ w'.cell? ⟨w4.heap.size, 8, none⟩ = some (.int .i64 x.o.kind) /\ w'.cell? ⟨w4.heap.size, 9, none⟩ = some (.string (B x.o.text)) /\ w'.cell? ⟨w4.heap.size, 10, none⟩ = some (.string (B x.o.type)) /\ w'.cell? ⟨w4.heap.size, 11, none⟩ = some (.string (B x.o.lang)) /\ w'.cell? ⟨w4.heap.size, 12, none⟩ = some (.int .i64 x.g.kind) /\ w'.cell? ⟨w4.heap.size, 13, none⟩ = some (.string (B x.g.text)) /\ w'.cell? ⟨w4.heap.size, 14, none⟩ = some (.string (B x.g.type)) /\ w'.cell? ⟨w4.heap.size, 15, none⟩ = some (.string (B x.g.lang)) /\ w'.cell? ⟨w4.heap.size + 1, 0, none⟩ = some (.int .i64 0) /\ w'.cell? ⟨w4.heap.size + 1, 1, none⟩ = some (.int .i64 0)) := Lib.hid (fun w' h => by
   have HM := HM7.out.below h
   obtain ⟨x0, x1, x2, x3, x4, x5, x6, x7, x8, x9, x10, x11, x12, x13, x14, x15⟩ := cells16 (range_row HM.l.x)
   obtain ⟨y0, y1, y2, y3, y4, y5, y6, y7, y8, y9, y10, y11, y12, y13, y14, y15⟩ := cells16 (range_row HM.y)
   simp only [Nat.zero_add] at x1 x2 x3 x4 x5 x6 x7 x8 x9 x10 x11 x12 x13 x14 x15 y1 y2 y3 y4 y5 y6 y7 y8 y9 y10 y11 y12 y13 y14 y15
   obtain ⟨f0, f1, _, _, _⟩ := row_two HM.f
   exact ⟨x0, x1, x2, x3, x4, x5, x6, x7, x8, x9, x10, x11, x12, x13, x14, x15, y0, y1, y2, y3, y4, y5, y6, y7, y8, y9, y10, y11, y12, y13, y14, y15, f0, f1⟩)
 have HB7 : Hid (Below w7.heap.size w7 w7.drew) := Lib.hid (below_drewN w7 1)
 have HBW := Lib.hid HM7.out.l.b
 go_region_held3 (fun w' => w'.cell? ⟨w2.heap.size, 0, none⟩ = some (.int .i64 x.s.kind) /\ w'.cell? ⟨w2.heap.size, 1, none⟩ = some (.string (B x.s.text)) /\ w'.cell? ⟨w2.heap.size, 2, none⟩ = some (.string (B x.s.type)) /\ w'.cell? ⟨w2.heap.size, 3, none⟩ = some (.string (B x.s.lang)) /\ w'.cell? ⟨w2.heap.size, 4, none⟩ = some (.int .i64 x.p.kind) /\ w'.cell? ⟨w2.heap.size, 5, none⟩ = some (.string (B x.p.text)) /\ w'.cell? ⟨w2.heap.size, 6, none⟩ = some (.string (B x.p.type)) /\ w'.cell? ⟨w2.heap.size, 7, none⟩ = some (.string (B x.p.lang)) /\ w'.cell? ⟨w2.heap.size, 8, none⟩ = some (.int .i64 x.o.kind) /\ w'.cell? ⟨w2.heap.size, 9, none⟩ = some (.string (B x.o.text)) /\ w'.cell? ⟨w2.heap.size, 10, none⟩ = some (.string (B x.o.type)) /\ w'.cell? ⟨w2.heap.size, 11, none⟩ = some (.string (B x.o.lang)) /\ w'.cell? ⟨w2.heap.size, 12, none⟩ = some (.int .i64 x.g.kind) /\ w'.cell? ⟨w2.heap.size, 13, none⟩ = some (.string (B x.g.text)) /\ w'.cell? ⟨w2.heap.size, 14, none⟩ = some (.string (B x.g.type)) /\ w'.cell? ⟨w2.heap.size, 15, none⟩ = some (.string (B x.g.lang)) /\ w'.cell? ⟨w4.heap.size, 0, none⟩ = some (.int .i64 x.s.kind) /\ w'.cell? ⟨w4.heap.size, 1, none⟩ = some (.string (B x.s.text)) /\ w'.cell? ⟨w4.heap.size, 2, none⟩ = some (.string (B x.s.type)) /\ w'.cell? ⟨w4.heap.size, 3, none⟩ = some (.string (B x.s.lang)) /\ w'.cell? ⟨w4.heap.size, 4, none⟩ = some (.int .i64 x.p.kind) /\ w'.cell? ⟨w4.heap.size, 5, none⟩ = some (.string (B x.p.text)) /\ w'.cell? ⟨w4.heap.size, 6, none⟩ = some (.string (B x.p.type)) /\ w'.cell? ⟨w4.heap.size, 7, none⟩ = some (.string (B x.p.lang)) /\ w'.cell? ⟨w4.heap.size, 8, none⟩ = some (.int .i64 x.o.kind) /\ w'.cell? ⟨w4.heap.size, 9, none⟩ = some (.string (B x.o.text)) /\ w'.cell? ⟨w4.heap.size, 10, none⟩ = some (.string (B x.o.type)) /\ w'.cell? ⟨w4.heap.size, 11, none⟩ = some (.string (B x.o.lang)) /\ w'.cell? ⟨w4.heap.size, 12, none⟩ = some (.int .i64 x.g.kind) /\ w'.cell? ⟨w4.heap.size, 13, none⟩ = some (.string (B x.g.text)) /\ w'.cell? ⟨w4.heap.size, 14, none⟩ = some (.string (B x.g.type)) /\ w'.cell? ⟨w4.heap.size, 15, none⟩ = some (.string (B x.g.lang)) /\ w'.cell? ⟨w4.heap.size + 1, 0, none⟩ = some (.int .i64 0) /\ w'.cell? ⟨w4.heap.size + 1, 1, none⟩ = some (.int .i64 0)) (exact SB.out _ HB7.out)
   (first | (go_at_call 20; (with_reducible refine (SN.out _).mono ?_); rintro e w8 ⟨rfl, hb8⟩; have HB8 := Lib.hid (HB7.out.trans (hb8.mono HB7.out.size)); clear HB7 hb8; have HB7 := HB8; clear HB8))
 go_wp2_with fail
 go_ret
 exact ⟨rfl, HBW.out.trans (HB7.out.mono HBW.out.size)⟩
set_option maxHeartbeats 12000000 in
theorem lines_e (p : Nat) (c : Int) (l : List UInt8) (q : QuadL) (w : World) (hT : TabAt w) (hM : MaxAt w) (hS : Short q) (hl : l.length <= 1048576) (hx : lineAt l = .inr (p, c)) :
   Calls Tryz.prog 4 #[.string (B l), qv q] w fun e w' => e = .returned (.bool true) /\ Below w.heap.size w w' := by
 have hA : Below w.heap.size w (w.alloc (.cells #[.int .i64 q.s.kind, .string (B q.s.text), .string (B q.s.type), .string (B q.s.lang), .int .i64 q.p.kind, .string (B q.p.text), .string (B q.p.type), .string (B q.p.lang), .int .i64 q.o.kind, .string (B q.o.text), .string (B q.o.type), .string (B q.o.lang), .int .i64 q.g.kind, .string (B q.g.text), .string (B q.g.type), .string (B q.g.lang)] 36)) := (Below.refl _ _).alloc (Nat.le_refl _) _
 have HA := Lib.hid hA
 have LE := Lib.hid (lineE_l l (w.alloc (.cells #[.int .i64 q.s.kind, .string (B q.s.text), .string (B q.s.type), .string (B q.s.lang), .int .i64 q.p.kind, .string (B q.p.text), .string (B q.p.type), .string (B q.p.lang), .int .i64 q.o.kind, .string (B q.o.text), .string (B q.o.type), .string (B q.o.lang), .int .i64 q.g.kind, .string (B q.g.text), .string (B q.g.type), .string (B q.g.lang)] 36)) (hT.below hA) (hM.below hA) (by omega))
 have RL := Lib.hid (fun u => refLineE_l l u (by omega))
 have TX := Lib.hid (fun (u : World) (hb : Below w.heap.size w u) => nqTextE_l q u (hT.below hb) (hM.below hb) hS)
 have RT := Lib.hid (fun (u : World) => ref09Text_l q u hS)
 have HQ0 : Hid (∀ u, Below (w.alloc (.cells #[.int .i64 q.s.kind, .string (B q.s.text), .string (B q.s.type), .string (B q.s.lang), .int .i64 q.p.kind, .string (B q.p.text), .string (B q.p.type), .string (B q.p.lang), .int .i64 q.o.kind, .string (B q.o.text), .string (B q.o.type), .string (B q.o.lang), .int .i64 q.g.kind, .string (B q.g.text), .string (B q.g.type), .string (B q.g.lang)] 36)).heap.size (w.alloc (.cells #[.int .i64 q.s.kind, .string (B q.s.text), .string (B q.s.type), .string (B q.s.lang), .int .i64 q.p.kind, .string (B q.p.text), .string (B q.p.type), .string (B q.p.lang), .int .i64 q.o.kind, .string (B q.o.text), .string (B q.o.type), .string (B q.o.lang), .int .i64 q.g.kind, .string (B q.g.text), .string (B q.g.type), .string (B q.g.lang)] 36)) u -> Below w.heap.size w u /\ u.heap[w.heap.size]? = some (.cells (quadC q).toArray 36 (0, 0))) := Lib.hid (fun u hu => by
   refine ⟨hA.trans (hu.mono hA.size), ?_⟩
   rw [hu.block w.heap.size (by simp)]
   exact heap_alloc_new _ _)
 have EF := eql_flt
 obtain ⟨tn, htn⟩ : ∃ z : List UInt8 × Int, lineN q = z := ⟨_, rfl⟩
 rw [htn] at TX RT
 obtain ⟨tx, te⟩ := tn
 clear htn
 rw [hx] at LE RL
 clear hT hM hS hA hx
 have SN := Lib.hid (fun (v : Value) (u : World) (h : ErrIs u v (.inr (p, c))) => seen_err v p c u h)
 have RL : Hid (∀ u, Calls Tryz.prog 17 #[.string (B l)] u fun e w' => e = .returned (.tuple #[qv noQuad, .bool false, .agg #[.int .i64 (p : Int), .int .i64 c]]) /\ Below u.heap.size u w') := RL
 have EQ := fun u => eql_q noQuad noQuad u
 rw [decide_eq_true rfl] at EQ
 go_enter Tryz.func4, Tryz.ntmps4
 go_wp2_with (first
   | (go_at_call 16; (refine LE.out.mono ?_); rintro e w2 ⟨hx, hb2⟩; obtain ⟨eb, rfl, he⟩ := hx; have HV2 := Lib.hid he; clear he; obtain ⟨hbb, hq⟩ := HQ0.out w2 hb2; have HB2 := Lib.hid hbb; have HQ2 := Lib.hid hq; clear hb2 hbb hq)
   | (refine wpList_store_quad rfl (.tmp 5) (.tmp 18) rfl w2.heap.size rfl noQuad rfl 36 (quadC noQuad).toArray rfl (heap_alloc_new w2 _) ?_; rw [World.setRow_alloc_new]; have HB3 := Lib.hid (HB2.out.alloc HB2.out.size (.cells (quadC noQuad).toArray 36)); have HM3 : Hid (LwMem w (w2.alloc (.cells (quadC noQuad).toArray 36)) q w2.heap.size noQuad) := Lib.hid ⟨HB3.out, (heap_alloc_old _ _ (Array.getElem?_eq_some_iff.1 HQ2.out).1).trans HQ2.out, heap_alloc_new w2 _⟩; have HV3 := Lib.hid (HV2.out.below ((Below.refl _ _).alloc (Nat.le_refl _) (.cells (quadC noQuad).toArray 36))))
   | (go_at_call 17; (with_reducible refine (RL.out _).mono ?_); rintro e w4 ⟨rfl, hb4⟩; have HM4 := Lib.hid (HM3.out.below hb4); have HV4 := Lib.hid (HV3.out.below hb4); clear hb4)
   | (refine wpList_store_quad rfl (.tmp 8) (.tmp 24) rfl w4.heap.size rfl noQuad rfl 36 (quadC noQuad).toArray rfl ((heap_alloc_old _ _ (by simp)).trans (heap_alloc_new w4 _)) ?_; rw [setRow_alloc_2]; have HM5 : Hid (LxMem w ((w4.alloc (.cells (quadC noQuad).toArray 36)).alloc (.cells #[.int .i64 (p : Int), .int .i64 c] 42)) q w2.heap.size w4.heap.size (w4.heap.size + 1) noQuad (p : Int) c) := Lib.hid ⟨(HM4.out.below ((Below.refl _ _).alloc (Nat.le_refl _) _)).below ((Below.refl _ _).alloc (Nat.le_refl _) _), (heap_alloc_old _ _ (by simp)).trans (heap_alloc_new w4 _), by have h := rowAt_of_heap (L := [.int .i64 (p : Int), .int .i64 c]) (heap_alloc_new (w4.alloc (.cells (quadC noQuad).toArray 36)) (.cells #[.int .i64 (p : Int), .int .i64 c] 42)); rwa [World.size_alloc] at h⟩; have HV5 := Lib.hid ((HV4.out.below ((Below.refl _ _).alloc (Nat.le_refl _) (.cells (quadC noQuad).toArray 36))).below ((Below.refl _ _).alloc (Nat.le_refl _) (.cells #[.int .i64 (p : Int), .int .i64 c] 42))))
   | (refine wpList_load_quad rfl (.tmp 3) rfl w.heap.size 0 rfl q (range_row HM5.out.l.q) ?_)
   | (refine wpList_load_quad rfl (.tmp 3) rfl w.heap.size 0 rfl q (range_row HM6.out.l.q) ?_)
   | (go_at_call 18; (with_reducible refine (TX.out _ HM5.out.l.b).mono ?_); rintro e w6 ⟨rfl, hb6⟩; have HM6 := Lib.hid (HM5.out.below hb6); have HV6 := Lib.hid (HV5.out.below hb6); clear hb6)
   | (go_at_call 19; (with_reducible refine (RT.out _).mono ?_); rintro e w7 ⟨rfl, hb7⟩; have HM7 := Lib.hid (HM6.out.below hb7); have HV7 := Lib.hid (HV6.out.below hb7); clear hb7))
 have SB : Hid (∀ w', Below w7.heap.size w7 w' -> w'.cell? ⟨w2.heap.size, 0, none⟩ = some (.int .i64 noQuad.s.kind) /\ w'.cell? ⟨w2.heap.size, 1, none⟩ = some (.string (B noQuad.s.text)) /\ w'.cell? ⟨w2.heap.size, 2, none⟩ = some (.string (B noQuad.s.type)) /\ w'.cell? ⟨w2.heap.size, 3, none⟩ = some (.string (B noQuad.s.lang)) /\ w'.cell? ⟨w2.heap.size, 4, none⟩ = some (.int .i64 noQuad.p.kind) /\ w'.cell? ⟨w2.heap.size, 5, none⟩ = some (.string (B noQuad.p.text)) /\ w'.cell? ⟨w2.heap.size, 6, none⟩ = some (.string (B noQuad.p.type)) /\ w'.cell? ⟨w2.heap.size, 7, none⟩ = some (.string (B noQuad.p.lang)) /\ w'.cell? ⟨w2.heap.size, 8, none⟩ = some (.int .i64 noQuad.o.kind) /\ w'.cell? ⟨w2.heap.size, 9, none⟩ = some (.string (B noQuad.o.text)) /\ w'.cell? ⟨w2.heap.size, 10, none⟩ = some (.string (B noQuad.o.type)) /\ w'.cell? ⟨w2.heap.size, 11, none⟩ = some (.string (B noQuad.o.lang)) /\ w'.cell? ⟨w2.heap.size, 12, none⟩ = some (.int .i64 noQuad.g.kind) /\ w'.cell? ⟨w2.heap.size, 13, none⟩ = some (.string (B noQuad.g.text)) /\ w'.cell? ⟨w2.heap.size, 14, none⟩ = some (.string (B noQuad.g.type)) /\ w'.cell? ⟨w2.heap.size, 15, none⟩ = some (.string (B noQuad.g.lang)) /\ w'.cell? ⟨w4.heap.size, 0, none⟩ = some (.int .i64 noQuad.s.kind) /\ w'.cell? ⟨w4.heap.size, 1, none⟩ = some (.string (B noQuad.s.text)) /\ w'.cell? ⟨w4.heap.size, 2, none⟩ = some (.string (B noQuad.s.type)) /\ w'.cell? ⟨w4.heap.size, 3, none⟩ = some (.string (B noQuad.s.lang)) /\ w'.cell? ⟨w4.heap.size, 4, none⟩ = some (.int .i64 noQuad.p.kind) /\ w'.cell? ⟨w4.heap.size, 5, none⟩ = some (.string (B noQuad.p.text)) /\ w'.cell? ⟨w4.heap.size, 6, none⟩ = some (.string (B noQuad.p.type)) /\ w'.cell? ⟨w4.heap.size, 7, none⟩ = some (.string (B noQuad.p.lang)) /\ w'.cell? ⟨w4.heap.size, 8, none⟩ = some (.int .i64 noQuad.o.kind) /\ w'.cell? ⟨w4.heap.size, 9, none⟩ = some (.string (B noQuad.o.text)) /\ w'.cell? ⟨w4.heap.size, 10, none⟩ = some (.string (B noQuad.o.type)) /\ w'.cell? ⟨w4.heap.size, 11, none⟩ = some (.string (B noQuad.o.lang)) /\ w'.cell? ⟨w4.heap.size, 12, none⟩ = some (.int .i64 noQuad.g.kind) /\ w'.cell? ⟨w4.heap.size, 13, none⟩ = some (.string (B noQuad.g.text)) /\ w'.cell? ⟨w4.heap.size, 14, none⟩ = some (.string (B noQuad.g.type)) /\ w'.cell? ⟨w4.heap.size, 15, none⟩ = some (.string (B noQuad.g.lang)) /\ w'.cell? ⟨w4.heap.size + 1, 0, none⟩ = some (.int .i64 (p : Int)) /\ w'.cell? ⟨w4.heap.size + 1, 1, none⟩ = some (.int .i64 c)) := Lib.hid (fun w' h => by
   have HM := HM7.out.below h
   obtain ⟨x0, x1, x2, x3, x4, x5, x6, x7, x8, x9, x10, x11, x12, x13, x14, x15⟩ := cells16 (range_row HM.l.x)
   obtain ⟨y0, y1, y2, y3, y4, y5, y6, y7, y8, y9, y10, y11, y12, y13, y14, y15⟩ := cells16 (range_row HM.y)
   simp only [Nat.zero_add] at x1 x2 x3 x4 x5 x6 x7 x8 x9 x10 x11 x12 x13 x14 x15 y1 y2 y3 y4 y5 y6 y7 y8 y9 y10 y11 y12 y13 y14 y15
   obtain ⟨f0, f1, _, _, _⟩ := row_two HM.f
   exact ⟨x0, x1, x2, x3, x4, x5, x6, x7, x8, x9, x10, x11, x12, x13, x14, x15, y0, y1, y2, y3, y4, y5, y6, y7, y8, y9, y10, y11, y12, y13, y14, y15, f0, f1⟩)
 have HB7 : Hid (Below w7.heap.size w7 w7.drew) := Lib.hid (below_drewN w7 1)
 have HBW := Lib.hid HM7.out.l.b
 go_region_held3 (fun w' => w'.cell? ⟨w2.heap.size, 0, none⟩ = some (.int .i64 noQuad.s.kind) /\ w'.cell? ⟨w2.heap.size, 1, none⟩ = some (.string (B noQuad.s.text)) /\ w'.cell? ⟨w2.heap.size, 2, none⟩ = some (.string (B noQuad.s.type)) /\ w'.cell? ⟨w2.heap.size, 3, none⟩ = some (.string (B noQuad.s.lang)) /\ w'.cell? ⟨w2.heap.size, 4, none⟩ = some (.int .i64 noQuad.p.kind) /\ w'.cell? ⟨w2.heap.size, 5, none⟩ = some (.string (B noQuad.p.text)) /\ w'.cell? ⟨w2.heap.size, 6, none⟩ = some (.string (B noQuad.p.type)) /\ w'.cell? ⟨w2.heap.size, 7, none⟩ = some (.string (B noQuad.p.lang)) /\ w'.cell? ⟨w2.heap.size, 8, none⟩ = some (.int .i64 noQuad.o.kind) /\ w'.cell? ⟨w2.heap.size, 9, none⟩ = some (.string (B noQuad.o.text)) /\ w'.cell? ⟨w2.heap.size, 10, none⟩ = some (.string (B noQuad.o.type)) /\ w'.cell? ⟨w2.heap.size, 11, none⟩ = some (.string (B noQuad.o.lang)) /\ w'.cell? ⟨w2.heap.size, 12, none⟩ = some (.int .i64 noQuad.g.kind) /\ w'.cell? ⟨w2.heap.size, 13, none⟩ = some (.string (B noQuad.g.text)) /\ w'.cell? ⟨w2.heap.size, 14, none⟩ = some (.string (B noQuad.g.type)) /\ w'.cell? ⟨w2.heap.size, 15, none⟩ = some (.string (B noQuad.g.lang)) /\ w'.cell? ⟨w4.heap.size, 0, none⟩ = some (.int .i64 noQuad.s.kind) /\ w'.cell? ⟨w4.heap.size, 1, none⟩ = some (.string (B noQuad.s.text)) /\ w'.cell? ⟨w4.heap.size, 2, none⟩ = some (.string (B noQuad.s.type)) /\ w'.cell? ⟨w4.heap.size, 3, none⟩ = some (.string (B noQuad.s.lang)) /\ w'.cell? ⟨w4.heap.size, 4, none⟩ = some (.int .i64 noQuad.p.kind) /\ w'.cell? ⟨w4.heap.size, 5, none⟩ = some (.string (B noQuad.p.text)) /\ w'.cell? ⟨w4.heap.size, 6, none⟩ = some (.string (B noQuad.p.type)) /\ w'.cell? ⟨w4.heap.size, 7, none⟩ = some (.string (B noQuad.p.lang)) /\ w'.cell? ⟨w4.heap.size, 8, none⟩ = some (.int .i64 noQuad.o.kind) /\ w'.cell? ⟨w4.heap.size, 9, none⟩ = some (.string (B noQuad.o.text)) /\ w'.cell? ⟨w4.heap.size, 10, none⟩ = some (.string (B noQuad.o.type)) /\ w'.cell? ⟨w4.heap.size, 11, none⟩ = some (.string (B noQuad.o.lang)) /\ w'.cell? ⟨w4.heap.size, 12, none⟩ = some (.int .i64 noQuad.g.kind) /\ w'.cell? ⟨w4.heap.size, 13, none⟩ = some (.string (B noQuad.g.text)) /\ w'.cell? ⟨w4.heap.size, 14, none⟩ = some (.string (B noQuad.g.type)) /\ w'.cell? ⟨w4.heap.size, 15, none⟩ = some (.string (B noQuad.g.lang)) /\ w'.cell? ⟨w4.heap.size + 1, 0, none⟩ = some (.int .i64 (p : Int)) /\ w'.cell? ⟨w4.heap.size + 1, 1, none⟩ = some (.int .i64 c)) (exact SB.out _ HB7.out)
   (first | (go_at_call 20; (with_reducible refine (SN.out _ _ (HV7.out.below HB7.out)).mono ?_); rintro e w8 ⟨rfl, hb8⟩; have HB8 := Lib.hid (HB7.out.trans (hb8.mono HB7.out.size)); clear HB7 hb8; have HB7 := HB8; clear HB8))
 go_wp2_with fail
 go_ret
 exact ⟨rfl, HBW.out.trans (HB7.out.mono HBW.out.size)⟩
theorem lines_walk (l : List UInt8) (q : QuadL) (w : World) (hT : TabAt w) (hM : MaxAt w) (hS : Short q) (hl : l.length <= 1048576) :
   Calls Tryz.prog 4 #[.string (B l), qv q] w fun e w' => e = .returned (.bool true) /\ Below w.heap.size w w' := by
 cases hx : lineAt l with
 | inl o =>
   cases o with
   | none => exact lines_n l q w hT hM hS hl hx
   | some x => exact lines_s x l q w hT hM hS hl hx
 | inr f => exact lines_e f.1 f.2 l q w hT hM hS hl hx
end Go.Proofs.YtdegonmkikfghaaGreatDoor
namespace Go.Proofs.YtdegonmkikfghaaGreatDoor
open Go.ChangeShapes Go.WideShapes Go.ChangeAt Go.RowKit Go.Deep
set_option maxRecDepth 100000
theorem open_quad {H : Type} {enc : TypeId × Value -> H} {W : World} {b0 : Nat} {v : Value} {d : DataW H} {ps : List MemPlace} (hv : Value.okWide Tryz.prog W .any b0 36 v) (h : DataW.Trod enc Tryz.prog W 0 (fun _ => true) true 36 v d ps) :
   ∃ q, v = qv q /\ d = quadD q := by
 obtain ⟨cs, rfl, hcs⟩ := okWide_struct Tryz.underlying36 hv
 obtain ⟨fuel, hf⟩ := h
 obtain ⟨q, hc, hd⟩ := quad_of_trod hf
 refine ⟨q, ?_, hd⟩
 have e : cs.toList = quadC q := by simpa [Value.cells] using hc
 have e' : cs = (quadC q).toArray := by rw [<- e]
 rw [e']
 rfl
end Go.Proofs.YtdegonmkikfghaaGreatDoor
