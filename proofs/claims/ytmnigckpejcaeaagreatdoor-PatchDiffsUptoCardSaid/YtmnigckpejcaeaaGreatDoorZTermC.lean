/-
  term.literal, term.Check: contracts. By an AI agent.
-/
import Derived.Test.YtmnigckpejcaeaaGreatDoorZLabel
namespace Go.Proofs.YtmnigckpejcaeaaGreatDoor
open Go.RowKit
set_option maxRecDepth 100000
theorem isE {l : List UInt8} (h : l = []) : l.isEmpty = true := by rw [h]; rfl
theorem isNE {l : List UInt8} (h : l ≠ []) : l.isEmpty = false := by rw [List.isEmpty_eq_false_iff]; exact h
theorem bigI {l : List UInt8} (h : 65536 < l.length) : decide ((65536 : Int) < (l.length : Int)) = true := decide_eq_true (by omega)
theorem bigN {l : List UInt8} (h : ¬ 65536 < l.length) : decide ((65536 : Int) < (l.length : Int)) = false := decide_eq_false (by omega)
set_option maxHeartbeats 6400000 in
theorem literal_l (t : TermL) (w : World) (hM : MaxAt w) (h1 : t.text.length <= 1048576) (h2 : t.type.length <= 1048576) (h3 : t.lang.length <= 1048576) :
   Calls Tryz.prog 104 #[termV t] w fun e w' => e = .returned (.int .i64 (litN t)) /\ Below w.heap.size w w' := by
 obtain ⟨k, tx, ty, la⟩ := t
 simp only at h1 h2 h3
 unfold termV
 simp only
 have UC := Lib.hid (fun u => utfCheck_l tx u (by omega))
 have IR := Lib.hid (fun u => iriCheck_l ty u (by omega))
 have TG := Lib.hid (fun u (h : Below w.heap.size w u) => tag_l la u (hM.below h) (by omega))
 have LO := Lib.hid (fun u => lower_l la u (by unfold maxLen; omega))
 have BX0 := Lib.hid (fun w' (h : Below (w.alloc (.cells #[.int .i64 k, .string (B tx), .string (B ty), .string (B la)] 54)).heap.size (w.alloc (.cells #[.int .i64 k, .string (B tx), .string (B ty), .string (B la)] 54)) w') => BoxT.mk0.later h)
 have BA : Hid (Below w.heap.size w (w.alloc (.cells #[.int .i64 k, .string (B tx), .string (B ty), .string (B la)] 54))) := Lib.hid ((Below.refl _ _).alloc (Nat.le_refl _) _)
 have HL : Hid (litN ⟨k, tx, ty, la⟩ = if 65536 < tx.length then 2 else if 0 <= utfF tx 0 then 40 else if iriN ty ≠ 0 then iriN ty else if langN la ≠ 0 then langN la else if (la = []) = (ty = tagged) then 71 else 0) := Lib.hid rfl
 clear hM
 by_cases g1 : 65536 < tx.length
 · have q1 := bigI g1
   have HE : Hid (litN ⟨k, tx, ty, la⟩ = 2) := Lib.hid (by rw [HL.out, if_pos g1])
   go_enter Tryz.func104, Tryz.ntmps104
   go_wp2_with fail
   go_ret
   exact ⟨ret_i64 HE.out.symm, BA.out⟩
 have q1 := bigN g1
 rw [if_neg g1] at HL
 obtain ⟨u, hu⟩ : ∃ u, utfF tx 0 = u := ⟨_, rfl⟩
 rw [hu] at UC HL
 clear hu
 by_cases g2 : 0 <= u
 · have q2 : decide (0 <= u) = true := decide_eq_true g2
   have HE : Hid (litN ⟨k, tx, ty, la⟩ = 40) := Lib.hid (by rw [HL.out, if_pos g2])
   clear g2
   go_enter Tryz.func104, Tryz.ntmps104
   go_wp2_with (go_at_call 136; (with_reducible refine (UC.out _).mono ?_); rintro e w1 ⟨rfl, rfl⟩)
   go_ret
   exact ⟨ret_i64 HE.out.symm, BA.out⟩
 have q2 : decide (0 <= u) = false := decide_eq_false g2
 rw [if_neg g2] at HL
 clear g2
 obtain ⟨i, hi⟩ : ∃ i, iriN ty = i := ⟨_, rfl⟩
 rw [hi] at IR HL
 clear hi
 by_cases g3 : i = 0
 case neg =>
   have q3 : (i != 0) = true := by rw [bne, beq_eq_false_iff_ne.2 g3]; rfl
   have HE : Hid (litN ⟨k, tx, ty, la⟩ = i) := Lib.hid (by rw [HL.out, if_pos g3])
   clear g3
   go_enter Tryz.func104, Tryz.ntmps104
   go_wp2_with (first | (go_at_call 136; (with_reducible refine (UC.out _).mono ?_); rintro e w1 ⟨rfl, rfl⟩) | (go_at_call 102; (with_reducible refine (IR.out _).mono ?_); rintro e w2 ⟨rfl, hb2⟩; have BX := BX0.out _ hb2; obtain ⟨bb, c0, c1, c2, c3⟩ := BX; clear hb2))
   go_ret
   exact ⟨ret_i64 HE.out.symm, bb⟩
 subst g3
 rw [if_neg (fun x => x rfl)] at HL
 by_cases g4 : la = []
 · have q4 := isE g4
   have hl0 : langN la = 0 := by unfold langN; rw [if_pos g4]
   rw [hl0, if_neg (fun x => x rfl)] at HL
   clear hl0
   by_cases g5 : ty = tagged
   · have q5 : (ty == tagged) = true := beq_iff_eq.2 g5
     have HE : Hid (litN ⟨k, tx, ty, la⟩ = 71) := Lib.hid (by rw [HL.out, if_pos (by rw [eq_true g4, eq_true g5])])
     unfold tagged at q5
     clear g4 g5 HL
     go_enter Tryz.func104, Tryz.ntmps104
     go_wp2_with (first | (go_at_call 136; (with_reducible refine (UC.out _).mono ?_); rintro e w1 ⟨rfl, rfl⟩) | (go_at_call 102; (with_reducible refine (IR.out _).mono ?_); rintro e w2 ⟨rfl, hb2⟩; have BX := BX0.out _ hb2; obtain ⟨bb, c0, c1, c2, c3⟩ := BX; clear hb2))
     go_ret
     exact ⟨ret_i64 HE.out.symm, bb⟩
   · have q5 : (ty == tagged) = false := beq_eq_false_iff_ne.2 g5
     have HE : Hid (litN ⟨k, tx, ty, la⟩ = 0) := Lib.hid (by rw [HL.out, if_neg (by rw [eq_true g4, eq_false g5]; simp)])
     unfold tagged at q5
     clear g4 g5 HL
     go_enter Tryz.func104, Tryz.ntmps104
     go_wp2_with (first | (go_at_call 136; (with_reducible refine (UC.out _).mono ?_); rintro e w1 ⟨rfl, rfl⟩) | (go_at_call 102; (with_reducible refine (IR.out _).mono ?_); rintro e w2 ⟨rfl, hb2⟩; have BX := BX0.out _ hb2; obtain ⟨bb, c0, c1, c2, c3⟩ := BX; clear hb2))
     go_ret
     exact ⟨ret_i64 HE.out.symm, bb⟩
 have q4 := isNE g4
 have hlN : langN la = if 65536 < la.length then 2 else if (tagF la).isNone = true then 61 else if lowL la = la then 0 else 61 := by unfold langN; rw [if_neg g4]
 by_cases g5 : 65536 < la.length
 · have q5 := bigI g5
   rw [if_pos g5] at hlN
   have HE : Hid (litN ⟨k, tx, ty, la⟩ = 2) := Lib.hid (by rw [HL.out, hlN]; rfl)
   clear hlN HL g4
   go_enter Tryz.func104, Tryz.ntmps104
   go_wp2_with (first | (go_at_call 136; (with_reducible refine (UC.out _).mono ?_); rintro e w1 ⟨rfl, rfl⟩) | (go_at_call 102; (with_reducible refine (IR.out _).mono ?_); rintro e w2 ⟨rfl, hb2⟩; have BX := BX0.out _ hb2; obtain ⟨bb, c0, c1, c2, c3⟩ := BX; clear hb2))
   go_ret
   exact ⟨ret_i64 HE.out.symm, bb⟩
 have q5 := bigN g5
 rw [if_neg g5] at hlN
 cases ht : tagF la with
 | none =>
   rw [ht] at TG hlN
   have HE : Hid (litN ⟨k, tx, ty, la⟩ = 61) := Lib.hid (by rw [HL.out, hlN]; rfl)
   clear hlN HL ht g4
   go_enter Tryz.func104, Tryz.ntmps104
   go_wp2_with (first | (go_at_call 136; (with_reducible refine (UC.out _).mono ?_); rintro e w1 ⟨rfl, rfl⟩) | (go_at_call 102; (with_reducible refine (IR.out _).mono ?_); rintro e w2 ⟨rfl, hb2⟩; have BX := BX0.out _ hb2; obtain ⟨bb, c0, c1, c2, c3⟩ := BX; clear hb2))
   refine (TG.out _ bb).mono ?_
   rintro e w3 ⟨rfl, hb3⟩
   have BX := Lib.hid ((BoxT.mk bb c0 c1 c2 c3).later hb3)
   clear bb c0 c1 c2 c3 hb3
   simp only [tagCells, noTag]
   go_upto_region 12 with fail
   go_quiet (fail)
   go_wp2_with fail
   refine (orErr_l 61 61 _ _ (by go_simp) (by go_simp)).mono ?_
   rintro e w4 ⟨rfl, rfl⟩
   go_wp2_with fail
   go_ret
   exact ⟨ret_i64 HE.out.symm, ((((BX.out.alloc _).drewN _).alloc _).b)⟩
 | some tg =>
   rw [ht] at TG hlN
   clear ht
   have SB : Hid (∀ v, BoxT w (.int .i64 k) (.string (B tx)) (.string (B ty)) (.string (B la)) v -> v.cell? ⟨w.heap.size, 3, none⟩ = some (.string (B la))) := Lib.hid (fun v h => h.c3)
   obtain ⟨lo, hlo⟩ : ∃ lo, lowL la = lo := ⟨_, rfl⟩
   rw [hlo] at LO hlN
   clear hlo
   by_cases g6 : lo = la
   · rw [if_pos g6] at hlN
     have q6 : (lo != la) = false := by rw [g6]; simp
     have q6' : (lo == la) = true := by rw [g6]; simp
     have HL2 : Hid (litN ⟨k, tx, ty, la⟩ = if (la = []) = (ty = tagged) then 71 else 0) := Lib.hid (by rw [HL.out, hlN]; rfl)
     clear g6 hlN HL
     have fin : ∃ b : Bool, Hid ((ty == tagged) = b) /\ Hid (litN ⟨k, tx, ty, la⟩ = bif b then 0 else 71) := by
       by_cases g7 : ty = tagged
       · exact ⟨true, Lib.hid (beq_iff_eq.2 g7), Lib.hid (by rw [HL2.out, if_neg (by rw [eq_false g4, eq_true g7]; simp)]; rfl)⟩
       · exact ⟨false, Lib.hid (beq_eq_false_iff_ne.2 g7), Lib.hid (by rw [HL2.out, if_pos (by rw [eq_false g4, eq_false g7])]; rfl)⟩
     obtain ⟨b, QB, HE⟩ := fin
     clear g4 HL2
     go_enter Tryz.func104, Tryz.ntmps104
     go_wp2_with (first | (go_at_call 136; (with_reducible refine (UC.out _).mono ?_); rintro e w1 ⟨rfl, rfl⟩) | (go_at_call 102; (with_reducible refine (IR.out _).mono ?_); rintro e w2 ⟨rfl, hb2⟩; have BX := BX0.out _ hb2; obtain ⟨bb, c0, c1, c2, c3⟩ := BX; clear hb2))
     refine (TG.out _ bb).mono ?_
     rintro e w3 ⟨a1, a2, d1, d2, rfl, hb3, _⟩
     have BX := Lib.hid ((BoxT.mk bb c0 c1 c2 c3).later hb3)
     clear bb c0 c1 c2 c3 hb3
     simp only [tagCells]
     go_upto_region 12 with fail
     have bV := BX.out.alloc (.cells #[.string (B tg.lang), .string (B tg.ext), .string (B tg.script), .string (B tg.region), .slice a1 tg.vars.length d1, .slice a2 tg.exts.length d2, .string (B tg.priv)] 209)
     generalize w3.alloc (.cells #[.string (B tg.lang), .string (B tg.ext), .string (B tg.script), .string (B tg.region), .slice a1 tg.vars.length d1, .slice a2 tg.exts.length d2, .string (B tg.priv)] 209) = V at *
     have BX2 := Lib.hid bV
     clear bV BX
     go_cut [44] (fun s wx => s = .bool false /\ BoxT w (.int .i64 k) (.string (B tx)) (.string (B ty)) (.string (B la)) wx)
     case first =>
       have z3 := SB.out _ BX2.out
       go_region_held3 (fun w' => w'.cell? ⟨w.heap.size, 3, none⟩ = some (.string (B la))) (first | exact z3 | exact SB.out _ HB7.out | exact SB.out _ BX2.out)
         ((go_at_call 138; (with_reducible refine (LO.out _).mono ?_); rintro e w7 ⟨rfl, hb7⟩; have HB7 := Lib.hid ((BX2.out.drewN 1).later hb7); clear hb7))
       go_wp2_with fail
       go_meet
       case rel => exact ⟨rfl, HB7.out⟩
     case rest =>
       obtain ⟨rfl, bb, c0, c1, c2, c3⟩ := hcut
       have q7 := QB.out
       unfold tagged at q7
       cases b with
       | true =>
         go_wp2_with fail
         go_ret
         exact ⟨ret_i64 HE.out.symm, bb⟩
       | false =>
         go_wp2_with fail
         go_ret
         exact ⟨ret_i64 HE.out.symm, bb⟩
   · rw [if_neg g6] at hlN
     have q6 : (lo != la) = true := by rw [bne, beq_eq_false_iff_ne.2 g6]; rfl
     have q6' : (lo == la) = false := beq_eq_false_iff_ne.2 g6
     have HE : Hid (litN ⟨k, tx, ty, la⟩ = 61) := Lib.hid (by rw [HL.out, hlN]; rfl)
     clear g6 hlN HL g4
     go_enter Tryz.func104, Tryz.ntmps104
     go_wp2_with (first | (go_at_call 136; (with_reducible refine (UC.out _).mono ?_); rintro e w1 ⟨rfl, rfl⟩) | (go_at_call 102; (with_reducible refine (IR.out _).mono ?_); rintro e w2 ⟨rfl, hb2⟩; have BX := BX0.out _ hb2; obtain ⟨bb, c0, c1, c2, c3⟩ := BX; clear hb2))
     refine (TG.out _ bb).mono ?_
     rintro e w3 ⟨a1, a2, d1, d2, rfl, hb3, _⟩
     have BX := Lib.hid ((BoxT.mk bb c0 c1 c2 c3).later hb3)
     clear bb c0 c1 c2 c3 hb3
     simp only [tagCells]
     go_upto_region 12 with fail
     have bV := BX.out.alloc (.cells #[.string (B tg.lang), .string (B tg.ext), .string (B tg.script), .string (B tg.region), .slice a1 tg.vars.length d1, .slice a2 tg.exts.length d2, .string (B tg.priv)] 209)
     generalize w3.alloc (.cells #[.string (B tg.lang), .string (B tg.ext), .string (B tg.script), .string (B tg.region), .slice a1 tg.vars.length d1, .slice a2 tg.exts.length d2, .string (B tg.priv)] 209) = V at *
     have BX2 := Lib.hid bV
     clear bV BX
     go_cut [44] (fun s wx => s = .bool true /\ BoxT w (.int .i64 k) (.string (B tx)) (.string (B ty)) (.string (B la)) wx)
     case first =>
       have z3 := SB.out _ BX2.out
       go_region_held3 (fun w' => w'.cell? ⟨w.heap.size, 3, none⟩ = some (.string (B la))) (first | exact z3 | exact SB.out _ HB7.out | exact SB.out _ BX2.out)
         ((go_at_call 138; (with_reducible refine (LO.out _).mono ?_); rintro e w7 ⟨rfl, hb7⟩; have HB7 := Lib.hid ((BX2.out.drewN 1).later hb7); clear hb7))
       go_wp2_with fail
       go_meet
       case rel => exact ⟨rfl, HB7.out⟩
     case rest =>
       obtain ⟨rfl, hbx⟩ := hcut
       have HBX := Lib.hid hbx
       clear hbx
       have OR := Lib.hid (fun (v : World) (T : TypeId) => orErr_l 0 61 v.heap.size (v.alloc (.cells #[.int .i64 0, .int .i64 61] T)) (by rw [World.cell?_alloc_new]; rfl) (by rw [World.cell?_alloc_new]; rfl))
       go_wp2_with fail
       refine (OR.out _ _).mono ?_
       rintro e w4 ⟨rfl, rfl⟩
       go_wp2_with fail
       go_ret
       exact ⟨ret_i64 HE.out.symm, (HBX.out.alloc _).b⟩
end Go.Proofs.YtmnigckpejcaeaaGreatDoor
