/-
  tesseralaw17.VocabEntries: the walk. By an AI agent.
-/
import Derived.Test.YtfocpjcbfbbpgaaGreatDoorZEntryR2
namespace Go.Proofs.YtfocpjcbfbbpgaaGreatDoor
open Go.RowKit
set_option maxRecDepth 1000000
set_option maxHeartbeats 4000000 in
theorem entries_walk (t : TermL) (k : Int) (s : List UInt8) (w : World) (hT : TabAt w) (hM : MaxAt w) (h1 : t.text.length <= 1048576) (h2 : t.type.length <= 1048576) (h3 : t.lang.length <= 1048576) (hs : s.length <= 1048576) :
   Calls Tryz.prog 3 #[termV t, .int .i64 k, .string (B s)] w fun e w' => e = .returned (.bool true) /\ Below w.heap.size w w' := by
 have E1 := Lib.hid (fun (u : World) (hb : Below w.heap.size w u) => vocabEntry_l t u (hT.below hb) (hM.below hb) h1 h2 h3)
 have E2 := Lib.hid (fun (u : World) => refEntry17_l t u h1 h2 h3)
 obtain ⟨en, ec, hen⟩ : ∃ en ec, entryN t = (en, ec) := ⟨_, _, rfl⟩
 rw [hen] at E1 E2
 have RD : Hid (∀ z, ∃ (a : Int) (b c d : List UInt8) (rc : Int), (∀ u, Below w.heap.size w u -> Calls Tryz.prog 8 #[.int .i64 z, .string (B s)] u fun e w' => e = .returned (.tuple #[.agg #[.int .i64 a, .string (B b), .string (B c), .string (B d)], .int .i64 rc]) /\ Below u.heap.size u w') /\ (∀ u, Calls Tryz.prog 9 #[.int .i64 z, .string (B s)] u fun e w' => e = .returned (.tuple #[.agg #[.int .i64 a, .string (B b), .string (B c), .string (B d)], .int .i64 rc]) /\ Below u.heap.size u w')) :=
   Lib.hid (fun z => ⟨_, _, _, _, _, fun u hb => vocabRead_l z s u (hT.below hb) (hM.below hb) hs, fun u => refRead17_l z s u hs⟩)
 obtain ⟨tk, tx, ty, la⟩ := t
 unfold termV at E1 E2 ⊢
 simp only at E1 E2 ⊢
 have qn : (en == en) = true := beq_self_eq_true _
 have qc : (ec != ec) = false := by simp
 have G0 : Blk4 (w.alloc (.cells #[.int .i64 tk, .string (B tx), .string (B ty), .string (B la)] 23)) w.heap.size (.int .i64 tk) (.string (B tx)) (.string (B ty)) (.string (B la)) := Blk4.of (World.alloc_heap_new w _)
 have HB0 : Hid (Below w.heap.size w (w.alloc (.cells #[.int .i64 tk, .string (B tx), .string (B ty), .string (B la)] 23))) := Lib.hid ((Below.refl _ w).alloc (Nat.le_refl _) _)
 clear hen hT hM h1 h2 h3
 go_enter Tryz.func3, Tryz.ntmps3
 go_wp2_with (first
   | (go_at_call 6; (with_reducible refine (E1.out _ HB0.out).mono ?_); rintro e1 w1 ⟨rfl, hb1⟩; have HB1 := Lib.hid (HB0.out.trans (hb1.mono HB0.out.size)); have P1 := G0.below hb1; have x0 := P1.c0; have x1 := P1.c1; have x2 := P1.c2; have x3 := P1.c3; have l1 := P1.lt; clear hb1 P1)
   | (go_at_call 7; (with_reducible refine (E2.out _).mono ?_); rintro e2 w2 ⟨rfl, hb2⟩; have HB2 := Lib.hid (HB1.out.trans (hb2.mono HB1.out.size)); clear hb2 x0 x1 x2 x3 l1))
 go_loopw [11] (fun i wr => ∃ z : Int, i = .int .i64 z /\ -1 <= z /\ z <= 6 /\ Hid (Below w.heap.size w wr)) (fun i _ => (6 - intOf i).toNat)
 case atStart => exact ⟨-1, rfl, by omega, by omega, HB2⟩
 case round =>
   obtain ⟨z, rfl, hz0, hz6, HB⟩ := hrel
   by_cases hz : z < 6
   · have q1 : decide (z < 6) = true := decide_eq_true hz
     obtain ⟨a, b, c, d, rc, ra, rb⟩ := RD.out z
     have RA := Lib.hid ra
     have RB := Lib.hid rb
     have qr : (rc != rc) = false := by simp
     have qa : (a == a) = true := beq_self_eq_true _
     have qb : (b == b) = true := beq_self_eq_true _
     have qd : (c == c) = true := beq_self_eq_true _
     have qe : (d == d) = true := beq_self_eq_true _
     clear ra rb RD E1 E2
     go_wp2_with (first
       | (go_at_call 8; (with_reducible refine (RA.out _ HB.out).mono ?_); rintro e3 w3 ⟨rfl, hb3⟩; have HB3 := Lib.hid (HB.out.trans (hb3.mono HB.out.size)); clear hb3)
       | (go_at_call 9; (with_reducible refine (RB.out _).mono ?_); rintro e4 w4 ⟨rfl, hb4⟩; have P4 : Blk4 w4 w3.heap.size (.int .i64 a) (.string (B b)) (.string (B c)) (.string (B d)) := (Blk4.of (World.alloc_heap_new w3 _)).below hb4; have HB4 := Lib.hid ((HB3.out.alloc HB3.out.size (.cells #[.int .i64 a, .string (B b), .string (B c), .string (B d)] 23)).trans (hb4.mono (HB3.out.alloc HB3.out.size _).size)); have x0 := P4.c0; have x1 := P4.c1; have x2 := P4.c2; have x3 := P4.c3; have l4 := P4.lt; clear hb4 P4))
     go_roundw
     case rel => exact ⟨z + 1, by go_num, by omega, by omega, Lib.hid (HB4.out.alloc HB4.out.size _)⟩
     case measure => simp [intOf]; omega
   · have q1 : decide (z < 6) = false := decide_eq_false hz
     obtain ⟨a, b, c, d, rc, ra, rb⟩ := RD.out k
     have RA := Lib.hid ra
     have RB := Lib.hid rb
     have qr : (rc == rc) = true := beq_self_eq_true _
     have qa : (a == a) = true := beq_self_eq_true _
     have qb : (b == b) = true := beq_self_eq_true _
     have qd : (c == c) = true := beq_self_eq_true _
     have qe : (d == d) = true := beq_self_eq_true _
     clear ra rb RD E1 E2
     go_wp2_with (first
       | (go_at_call 8; (with_reducible refine (RA.out _ HB.out).mono ?_); rintro e3 w3 ⟨rfl, hb3⟩; have HB3 := Lib.hid (HB.out.trans (hb3.mono HB.out.size)); clear hb3)
       | (go_at_call 9; (with_reducible refine (RB.out _).mono ?_); rintro e4 w4 ⟨rfl, hb4⟩; have P4 : Blk4 w4 w3.heap.size (.int .i64 a) (.string (B b)) (.string (B c)) (.string (B d)) := (Blk4.of (World.alloc_heap_new w3 _)).below hb4; have HB4 := Lib.hid ((HB3.out.alloc HB3.out.size (.cells #[.int .i64 a, .string (B b), .string (B c), .string (B d)] 23)).trans (hb4.mono (HB3.out.alloc HB3.out.size _).size)); have x0 := P4.c0; have x1 := P4.c1; have x2 := P4.c2; have x3 := P4.c3; have l4 := P4.lt; clear hb4 P4))
     refine bodyPost_ret (v := .bool true) (by simp [results, Tryz.results3, go_sem]) rfl ?_
     exact ⟨rfl, HB4.out.alloc HB4.out.size _⟩
end Go.Proofs.YtfocpjcbfbbpgaaGreatDoor
