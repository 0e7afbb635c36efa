/-
  lexis.Lexer: how it lies in memory; blanks: contracts. By an AI agent.
-/
import Derived.Test.YtdhmpakhdhdebaaGreatDoorZLexW5
import Derived.Test.YtdhmpakhdhdebaaGreatDoorZSeen
namespace Go.Proofs.YtdhmpakhdhdebaaGreatDoor
open Go.RowKit
set_option maxRecDepth 100000
def LexAt (w : World) (b : Nat) (l : List UInt8) (bad : Int) (i : Nat) (ev : Value) : Prop := RowAt w b [.string (B l), .int .i64 bad, .int .i64 (i : Int), ev]
theorem grownL_below {a w w' : World} {r : Option Nat} (h : a.grownBy w r) (hb : Below w.heap.size w w') : a.grownBy w' r :=
 ⟨hb.os.trans h.os, hb.tape.trans h.tape, hb.output.trans h.output, Nat.le_trans h.size hb.size, fun k hk hr => (hb.block k (Nat.lt_of_lt_of_le hk h.size)).trans (h.block k hk hr)⟩
theorem LexAt.lt {w : World} {b : Nat} {l : List UInt8} {bad : Int} {i : Nat} {ev : Value} (h : LexAt w b l bad i ev) : b < w.heap.size := World.block_lt_of_cell? _ _ (h.cell (j := 0) (by simp))
theorem LexAt.below {w w' : World} {b : Nat} {l : List UInt8} {bad : Int} {i : Nat} {ev : Value} (h : LexAt w b l bad i ev) (hb : Below w.heap.size w w') : LexAt w' b l bad i ev := RowAt.below h hb h.lt
theorem LexAt.to {w : World} {b : Nat} {l : List UInt8} {bad : Int} {i : Nat} {ev : Value} (h : LexAt w b l bad i ev) (k : Nat) : LexAt (w.setCell ⟨b, 2, none⟩ (.int .i64 (k : Int))) b l bad k ev := by
 have := RowAt.set h (j := 2) (by simp) (.int .i64 (k : Int))
 exact this
theorem LexAt.err {w : World} {b : Nat} {l : List UInt8} {bad : Int} {i : Nat} {ev : Value} (h : LexAt w b l bad i ev) (v : Value) : LexAt (w.setCell ⟨b, 3, none⟩ v) b l bad i v := by
 have := RowAt.set h (j := 3) (by simp) v
 exact this
theorem LexAt.drewN {w : World} {b : Nat} {l : List UInt8} {bad : Int} {i : Nat} {ev : Value} (h : LexAt w b l bad i ev) (n : Nat) : LexAt (w.drewN n) b l bad i ev := h
theorem endF_drop (l : List UInt8) (k : Nat) (hk : k <= l.length) : endF (l.drop k) = if eolF l k < l.length then ((eolF l k - k : Nat) : Int) else -1 := by
 rw [<- endF_any, idx_ends l l.length k (by omega) hk]
set_option maxHeartbeats 3200000 in
theorem lexBlanks_l (l : List UInt8) (bad : Int) (i : Nat) (ev : Value) (b : Nat) (w : World) (h : LexAt w b l bad i ev) (hi : i <= l.length) (hl : l.length <= 16777216) :
   Calls Tryz.prog 43 #[.pointer (some ⟨b, 0, none⟩)] w fun e w' => e = .returned (.tuple #[]) /\ LexAt w' b l bad (gapF l i) ev /\ w.grownBy w' (some b) := by
 have H0 := Lib.hid h
 have HG0 : Hid (w.grownBy w (some b)) := Lib.hid (World.grownBy.refl _ _)
 clear h
 go_enter Tryz.func43, Tryz.ntmps43
 go_wp2_with fail
 go_loopw [2] (fun _ wr => ∃ k : Nat, i <= k /\ k <= l.length /\ Hid (gapF l k = gapF l i) /\ Hid (LexAt wr b l bad k ev) /\ Hid (w.grownBy wr (some b))) (fun _ wr => l.length - (intOf ((wr.cell? ⟨b, 2, none⟩).getD undef)).toNat)
 case atStart => exact ⟨i, Nat.le_refl _, hi, Lib.hid rfl, H0, HG0⟩
 case round =>
   obtain ⟨k, hik, hk, HE, HX, HG⟩ := hrel
   obtain ⟨W0, hW0⟩ : ∃ W0 : World, W0 = wr := ⟨_, rfl⟩
   subst hW0
   clear H0 HG0
   obtain ⟨x0, x1, x2, x3, f0, f1, f2, f3⟩ := RowAt.four HX.out
   have hbl := HX.out.lt
   have hms : (intOf ((W0.cell? ⟨b, 2, none⟩).getD undef)).toNat = k := by rw [x2]; simp [intOf]
   have HM := Lib.hid hms
   clear hms
   have k0 : (0 : Int) <= (k : Int) := by omega
   by_cases hlt : k < l.length
   · have c1 : decide ((k : Int) < (l.length : Int)) = true := decide_eq_true (by omega)
     have c2 : decide (k < l.length) = true := decide_eq_true hlt
     have c3 : (k : Int) < (l.length : Int) := by omega
     have hg : l.getD k 0 = l[k] := by simp [List.getD, hlt]
     have WA : IntKind.i64.wrap ((k : Int) + 1) = (k : Int) + 1 := IntWalk.i64_in _ (by omega)
     by_cases h32 : l[k] = 32
     · have y32 : ((l[k].toNat : Int) == 32) = true := by rw [h32]; rfl
       have HN : Hid (gapF l (k + 1) = gapF l i) := Lib.hid (by rw [<- HE.out, gapF_blank hlt (by rw [hg, h32]; rfl)])
       clear HE hg h32
       go_wp2_with fail
       go_quiet (fail)
       go_wp2_with fail
       go_quiet (fail)
       go_wp2_with fail
       go_roundw
       case rel => exact ⟨k + 1, by omega, by omega, HN, Lib.hid ((HX.out.drewN _).to (k + 1)), Lib.hid (grownR_trans (grown_drewN HG.out _) (grownBy_setCell1 _ _ _ _))⟩
       case measure => rw [HM.out, World.cell?_setCell_same _ _ _ (show (W0.drewN _).cell? ⟨b, 2, none⟩ = some (.int .i64 (k : Int)) from x2)]; simp [intOf]; omega
     have n32 : ((l[k].toNat : Int) == 32) = false := byte_ne (d := 32) h32
     by_cases h9 : l[k] = 9
     · have y9 : ((l[k].toNat : Int) == 9) = true := by rw [h9]; rfl
       have HN : Hid (gapF l (k + 1) = gapF l i) := Lib.hid (by rw [<- HE.out, gapF_blank hlt (by rw [hg, h9]; rfl)])
       clear HE hg h9
       go_wp2_with fail
       go_quiet (fail)
       go_wp2_with fail
       go_quiet (fail)
       go_wp2_with fail
       go_roundw
       case rel => exact ⟨k + 1, by omega, by omega, HN, Lib.hid ((HX.out.drewN _).to (k + 1)), Lib.hid (grownR_trans (grown_drewN HG.out _) (grownBy_setCell1 _ _ _ _))⟩
       case measure => rw [HM.out, World.cell?_setCell_same _ _ _ (show (W0.drewN _).cell? ⟨b, 2, none⟩ = some (.int .i64 (k : Int)) from x2)]; simp [intOf]; omega
     have n9 : ((l[k].toNat : Int) == 9) = false := byte_ne (d := 9) h9
     by_cases h13 : l[k] = 13
     · have y13 : ((l[k].toNat : Int) == 13) = true := by rw [h13]; rfl
       have HN : Hid (gapF l (k + 1) = gapF l i) := Lib.hid (by rw [<- HE.out, gapF_blank hlt (by rw [hg, h13]; rfl)])
       clear HE hg h13
       go_wp2_with fail
       go_quiet (fail)
       go_wp2_with fail
       go_quiet (fail)
       go_wp2_with fail
       go_roundw
       case rel => exact ⟨k + 1, by omega, by omega, HN, Lib.hid ((HX.out.drewN _).to (k + 1)), Lib.hid (grownR_trans (grown_drewN HG.out _) (grownBy_setCell1 _ _ _ _))⟩
       case measure => rw [HM.out, World.cell?_setCell_same _ _ _ (show (W0.drewN _).cell? ⟨b, 2, none⟩ = some (.int .i64 (k : Int)) from x2)]; simp [intOf]; omega
     have n13 : ((l[k].toNat : Int) == 13) = false := byte_ne (d := 13) h13
     by_cases h10 : l[k] = 10
     · have y10 : ((l[k].toNat : Int) == 10) = true := by rw [h10]; rfl
       have HN : Hid (gapF l (k + 1) = gapF l i) := Lib.hid (by rw [<- HE.out, gapF_blank hlt (by rw [hg, h10]; rfl)])
       clear HE hg h10
       go_wp2_with fail
       go_quiet (fail)
       go_wp2_with fail
       go_quiet (fail)
       go_wp2_with fail
       go_roundw
       case rel => exact ⟨k + 1, by omega, by omega, HN, Lib.hid ((HX.out.drewN _).to (k + 1)), Lib.hid (grownR_trans (grown_drewN HG.out _) (grownBy_setCell1 _ _ _ _))⟩
       case measure => rw [HM.out, World.cell?_setCell_same _ _ _ (show (W0.drewN _).cell? ⟨b, 2, none⟩ = some (.int .i64 (k : Int)) from x2)]; simp [intOf]; omega
     have n10 : ((l[k].toNat : Int) == 10) = false := byte_ne (d := 10) h10
     have nb : blankC l[k] = false := by unfold blankC; simp [h32, h9, h13, h10]
     by_cases h35 : l[k] = 35
     · have y35 : ((l[k].toNat : Int) == 35) = true := by rw [h35]; rfl
       have ne : eolC (l.getD k 0) = false := by rw [hg, h35]; rfl
       have e1 := eolF_go hlt ne
       have hb := eolF_bound l l.length (k + 1) (by omega) (by omega)
       have HN : Hid (gapF l (eolF l k) = gapF l i) := Lib.hid (by rw [<- HE.out, gapF_hash hlt (by rw [hg]; exact h35), e1])
       have EN := Lib.hid (fun (u : World) => endAny_l (l.drop k) u (by simp; omega))
       rw [endF_drop l k (by omega)] at EN
       rw [<- e1] at hb
       obtain ⟨m, hm⟩ : ∃ m, eolF l k = m := ⟨_, rfl⟩
       rw [hm] at EN hb HN
       have tk : List.take (l.length - k) (List.drop k l) = List.drop k l := List.take_of_length_le (by simp)
       clear HE hg h35 e1 ne hm nb h32 h9 h13 h10
       have WM : IntKind.i64.wrap ((k : Int) + ((m - k : Nat) : Int)) = (m : Int) := by rw [IntWalk.i64_in _ (by omega)]; omega
       by_cases hm : m < l.length
       · rw [if_pos hm] at EN
         have d1 : decide (((m - k : Nat) : Int) < 0) = false := decide_eq_false (by omega)
         go_wp2_with fail
         go_quiet (fail)
         go_wp2_with fail
         go_quiet (fail)
         go_wp2_with fail
         go_region_with (go_at_call 65; (with_reducible refine (EN.out _).mono ?_); rintro e w2 ⟨rfl, hb2⟩; have HX2 := Lib.hid (@LexAt.below _ _ b l bad k ev (by exact HX.out) hb2); have HG2 := Lib.hid (@grownL_below w _ _ (some b) (by exact ⟨HG.out.os, HG.out.tape, HG.out.output, HG.out.size, HG.out.block⟩) hb2); obtain ⟨y0, y1, y2, y3, g0, g1, g2, g3⟩ := RowAt.four HX2.out; have hb3 := HX2.out.lt; clear hb2)
         all_goals (go_wp2_with fail)
         all_goals go_roundw
         all_goals first
           | (case rel => exact ⟨m, by omega, by omega, HN, Lib.hid ((HX2.out.drewN _).to m), Lib.hid (grownR_trans (grown_drewN HG2.out _) (grownBy_setCell1 _ _ _ _))⟩)
           | (case rel => exact ⟨m, by omega, by omega, HN, Lib.hid (HX2.out.to m), Lib.hid (grownR_trans HG2.out (grownBy_setCell1 _ _ _ _))⟩)
           | (case measure => rw [HM.out, World.cell?_setCell_same _ _ _ y2]; simp [intOf]; omega)
       · obtain rfl : m = l.length := by omega
         rw [if_neg hm] at EN
         have d1 : decide ((-1 : Int) < 0) = true := rfl
         have WN : IntKind.i64.wrap ((l.length : Int) - (k : Int)) = ((l.length - k : Nat) : Int) := by rw [IntWalk.i64_in _ (by omega)]; omega
         go_wp2_with fail
         go_quiet (fail)
         go_wp2_with fail
         go_quiet (fail)
         go_wp2_with fail
         go_region_with (go_at_call 65; (with_reducible refine (EN.out _).mono ?_); rintro e w2 ⟨rfl, hb2⟩; have HX2 := Lib.hid (@LexAt.below _ _ b l bad k ev (by exact HX.out) hb2); have HG2 := Lib.hid (@grownL_below w _ _ (some b) (by exact ⟨HG.out.os, HG.out.tape, HG.out.output, HG.out.size, HG.out.block⟩) hb2); obtain ⟨y0, y1, y2, y3, g0, g1, g2, g3⟩ := RowAt.four HX2.out; have hb3 := HX2.out.lt; clear hb2)
         all_goals (go_wp2_with fail)
         all_goals (go_quiet (fail))
         all_goals (go_wp2_with fail)
         all_goals go_roundw
         all_goals first
           | (case rel => exact ⟨l.length, by omega, by omega, HN, Lib.hid ((HX2.out.drewN _).to l.length), Lib.hid (grownR_trans (grown_drewN HG2.out _) (grownBy_setCell1 _ _ _ _))⟩)
           | (case measure => rw [HM.out, World.cell?_setCell_same _ _ _ (show (w2.drewN _).cell? ⟨b, 2, none⟩ = some (.int .i64 (k : Int)) from y2)]; simp [intOf]; omega)
     · have n35 : ((l[k].toNat : Int) == 35) = false := byte_ne (d := 35) h35
       have HR : Hid (gapF l i = k) := Lib.hid (by rw [<- HE.out, gapF_stop hlt (by rw [hg]; exact nb) (by rw [hg]; exact h35)])
       clear HE hg h35 nb h32 h9 h13 h10
       go_wp2_with fail
       go_quiet (fail)
       go_wp2_with fail
       go_quiet (fail)
       go_wp2_with fail
       refine bodyPost_ret (v := .tuple #[]) (by simp [results, Tryz.results43, go_sem]) rfl ?_
       exact ⟨rfl, by rw [HR.out]; exact HX.out.drewN _, grown_drewN HG.out _⟩
   · have c1 : decide ((k : Int) < (l.length : Int)) = false := decide_eq_false (by omega)
     have c2 : decide (k < l.length) = false := decide_eq_false hlt
     have HR : Hid (gapF l i = k) := Lib.hid (by rw [<- HE.out, gapF_end (by omega)])
     clear HE
     go_wp2_with fail
     go_quiet (fail)
     go_wp2_with fail
     go_end0
     exact ⟨rfl, by rw [HR.out]; exact HX.out.drewN _, grown_drewN HG.out _⟩
end Go.Proofs.YtdhmpakhdhdebaaGreatDoor
