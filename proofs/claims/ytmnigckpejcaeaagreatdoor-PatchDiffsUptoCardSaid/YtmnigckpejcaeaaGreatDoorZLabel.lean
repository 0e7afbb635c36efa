/-
  names.Label, and what the reference needs for it: contracts. By an AI agent.
-/
import Derived.Test.YtmnigckpejcaeaaGreatDoorZGPlain
import Derived.Test.YtmnigckpejcaeaaGreatDoorZGUtf
import Derived.Test.YtmnigckpejcaeaaGreatDoorZUtfCheck
import Derived.Test.YtmnigckpejcaeaaGreatDoorZTagCells
import Derived.Deep.RegionHeld3
namespace Go.Proofs.YtmnigckpejcaeaaGreatDoor
open Go.RowKit
set_option maxRecDepth 100000
def labelNum (l : List UInt8) : Int := if wholeR labelB l then 0 else 60
theorem label_l (l : List UInt8) (w : World) (hl : l.length <= 16777216) (hT : TabAt w) :
   Calls Tryz.prog 103 #[.string (B l)] w fun e w' => e = .returned (.int .i64 (labelNum l)) /\ w' = w := by
 have hr := run_whole labelB l
 obtain ⟨n, hn⟩ : ∃ n, runF labelB l 0 = n := ⟨_, rfl⟩
 have R := Lib.hid (hn ▸ labelAt_l l 0 w (by omega) (by omega) hT)
 rw [hn] at hr
 clear hT hn
 by_cases h0 : n = 0
 · have HE : Hid (labelNum l = 60) := Lib.hid (by unfold labelNum; rw [<- hr, decide_eq_false (by omega)]; rfl)
   have e0 : ((n : Int) == 0) = true := by rw [h0]; rfl
   clear hr h0
   go_enter Tryz.func103, Tryz.ntmps103
   go_wp2_with (go_at_call 135; refine R.out.mono ?_; rintro e w1 ⟨rfl, rfl⟩)
   go_ret
   exact ⟨ret_i64 HE.out.symm, rfl⟩
 have e0 : ((n : Int) == 0) = false := beq_eq_false_iff_ne.2 (by omega)
 by_cases h1 : n = l.length
 · have HE : Hid (labelNum l = 0) := Lib.hid (by unfold labelNum; rw [<- hr, decide_eq_true ⟨h0, h1⟩]; rfl)
   have e1 : ((n : Int) != (l.length : Int)) = false := by rw [h1]; simp
   clear hr h0 h1
   go_enter Tryz.func103, Tryz.ntmps103
   go_wp2_with (go_at_call 135; refine R.out.mono ?_; rintro e w1 ⟨rfl, rfl⟩)
   go_ret
   exact ⟨ret_i64 HE.out.symm, rfl⟩
 · have HE : Hid (labelNum l = 60) := Lib.hid (by unfold labelNum; rw [<- hr, decide_eq_false (by omega)]; rfl)
   have e1 : ((n : Int) != (l.length : Int)) = true := by rw [bne_iff_ne]; omega
   clear hr h0 h1
   go_enter Tryz.func103, Tryz.ntmps103
   go_wp2_with (go_at_call 135; refine R.out.mono ?_; rintro e w1 ⟨rfl, rfl⟩)
   go_ret
   exact ⟨ret_i64 HE.out.symm, rfl⟩
end Go.Proofs.YtmnigckpejcaeaaGreatDoor
namespace Go.Proofs.YtmnigckpejcaeaaGreatDoor
open Go.RowKit
set_option maxRecDepth 100000
def termV (t : TermL) : Value := .agg #[.int .i64 t.kind, .string (B t.text), .string (B t.type), .string (B t.lang)]
structure BoxT (w : World) (k : Value) (x y z : Value) (w' : World) : Prop where
 b : Below w.heap.size w w'
 c0 : w'.cell? ⟨w.heap.size, 0, none⟩ = some k
 c1 : w'.cell? ⟨w.heap.size, 1, none⟩ = some x
 c2 : w'.cell? ⟨w.heap.size, 2, none⟩ = some y
 c3 : w'.cell? ⟨w.heap.size, 3, none⟩ = some z
theorem BoxT.mk0 {w : World} {k x y z : Value} {T : TypeId} : BoxT w k x y z (w.alloc (.cells #[k, x, y, z] T)) :=
 ⟨(Below.refl _ _).alloc (Nat.le_refl _) _, by rw [World.cell?_alloc_new]; rfl, by rw [World.cell?_alloc_new]; rfl, by rw [World.cell?_alloc_new]; rfl, by rw [World.cell?_alloc_new]; rfl⟩
theorem BoxT.later {w w1 w2 : World} {k x y z : Value} (h : BoxT w k x y z w1) (hb : Below w1.heap.size w1 w2) : BoxT w k x y z w2 := by
 have hl : w.heap.size < w1.heap.size := World.block_lt_of_cell? _ _ h.c0
 exact ⟨h.b.trans (hb.mono h.b.size), (hb.cell (p := ⟨w.heap.size, 0, none⟩) hl).trans h.c0, (hb.cell (p := ⟨w.heap.size, 1, none⟩) hl).trans h.c1, (hb.cell (p := ⟨w.heap.size, 2, none⟩) hl).trans h.c2, (hb.cell (p := ⟨w.heap.size, 3, none⟩) hl).trans h.c3⟩
theorem BoxT.alloc {w w1 : World} {k x y z : Value} (h : BoxT w k x y z w1) (o : Obj) : BoxT w k x y z (w1.alloc o) := h.later ((Below.refl _ _).alloc (Nat.le_refl _) _)
theorem BoxT.drewN {w w1 : World} {k x y z : Value} (h : BoxT w k x y z w1) (n : Nat) : BoxT w k x y z (w1.drewN n) := ⟨h.b.trans ((below_drewN w1 n).mono h.b.size), h.c0, h.c1, h.c2, h.c3⟩
set_option maxHeartbeats 800000 in
theorem orErr_l (x y : Int) (g : Nat) (w : World) (h0 : w.cell? ⟨g, 0, none⟩ = some (.int .i64 x)) (h1 : w.cell? ⟨g, 1, none⟩ = some (.int .i64 y)) :
   Calls Tryz.prog 65 #[.slice (some ⟨g, 0, none⟩) 2 2] w fun e w' => e = .returned (.int .i64 (orI x y)) /\ w' = w := by
 have HX : Hid (orI x y = if x = 0 then y else x) := Lib.hid rfl
 go_enter Tryz.func65, Tryz.ntmps65
 go_wp2_with fail
 go_loop [8] (fun i => i = .int .i64 0 \/ (i = .int .i64 1 /\ x = 0) \/ (i = .int .i64 2 /\ x = 0 /\ y = 0)) (fun i => 2 - (intOf i).toNat)
 case atStart => exact .inl rfl
 case round =>
   rcases hrel with rfl | ⟨rfl, hx⟩ | ⟨rfl, hx, hy⟩
   · by_cases hx : x = 0
     · have q : (x != 0) = false := by rw [hx]; rfl
       clear HX
       go_wp2_with fail
       go_round
       case rel => exact .inr (.inl ⟨rfl, hx⟩)
       case measure => simp [intOf]
     · have q : (x != 0) = true := by rw [bne, beq_eq_false_iff_ne.2 hx]; rfl
       have HE : Hid (orI x y = x) := Lib.hid (by rw [HX.out, if_neg hx])
       clear HX hx
       go_wp2_with fail
       go_ret
       exact ⟨ret_i64 HE.out.symm, rfl⟩
   · by_cases hy : y = 0
     · have q : (y != 0) = false := by rw [hy]; rfl
       have HX2 := Lib.hid hx
       clear HX hx
       go_wp2_with fail
       go_round
       case rel => exact .inr (.inr ⟨rfl, HX2.out, hy⟩)
       case measure => simp [intOf]
     · have q : (y != 0) = true := by rw [bne, beq_eq_false_iff_ne.2 hy]; rfl
       have HE : Hid (orI x y = y) := Lib.hid (by rw [HX.out, if_pos hx])
       clear HX hx hy
       go_wp2_with fail
       go_ret
       exact ⟨ret_i64 HE.out.symm, rfl⟩
   · have HE : Hid (orI x y = 0) := Lib.hid (by rw [HX.out, if_pos hx, hy])
     clear HX hx hy
     go_wp2_with fail
     go_ret
     exact ⟨ret_i64 HE.out.symm, rfl⟩
end Go.Proofs.YtmnigckpejcaeaaGreatDoor
