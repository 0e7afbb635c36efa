/-
  term.Check; the reference's literal and Check: contracts. By an AI agent.
-/
import Derived.Test.YtfocpjcbfbbpgaaGreatDoorZTermC
import Derived.Test.YtfocpjcbfbbpgaaGreatDoorZRefIri
import Derived.Test.YtfocpjcbfbbpgaaGreatDoorZRefTag
import Derived.Test.YtfocpjcbfbbpgaaGreatDoorZRefLabel
namespace Go.Proofs.YtfocpjcbfbbpgaaGreatDoor
open Go.RowKit
set_option maxRecDepth 100000
theorem lowL_same (l : List UInt8) : lowL l = l ↔ ∀ c ∈ l, ¬ (65 <= c.toNat /\ c.toNat <= 90) := by
 induction l with
 | nil => simp [lowL]
 | cons c r ih =>
   have hc : lowB c = c ↔ ¬ (65 <= c.toNat /\ c.toNat <= 90) := by
     unfold lowB
     split
     · next h =>
       refine ⟨fun e => ?_, fun e => absurd h e⟩
       have := congrArg UInt8.toNat e
       rw [UInt8.toNat_add] at this
       simp at this
       omega
     · next h => exact ⟨fun _ => h, fun _ => rfl⟩
   have e : lowL (c :: r) = lowB c :: lowL r := rfl
   rw [e, List.cons.injEq, hc, ih]
   simp
set_option maxHeartbeats 6400000 in
theorem refLiteral_l (t : TermL) (w : World) (h1 : t.text.length <= 1048576) (h2 : t.type.length <= 1048576) (h3 : t.lang.length <= 1048576) :
   Calls Tryz.prog 57 #[termV t] w fun e w' => e = .returned (.int .i64 (litN t)) /\ Below w.heap.size w w' := by
 obtain ⟨k, tx, ty, la⟩ := t
 simp only at h1 h2 h3
 unfold termV
 simp only
 have UC := Lib.hid (fun u => refUtfCheck_l tx u (by omega))
 have IR := Lib.hid (fun u => refIriCheck_l ty u (by omega))
 have TG := Lib.hid (fun u => refTag_l la u (by omega))
 have BX0 := Lib.hid (fun w' (h : Below (w.alloc (.cells #[.int .i64 k, .string (B tx), .string (B ty), .string (B la)] 23)).heap.size (w.alloc (.cells #[.int .i64 k, .string (B tx), .string (B ty), .string (B la)] 23)) w') => BoxT.mk0.later h)
 have BA : Hid (Below w.heap.size w (w.alloc (.cells #[.int .i64 k, .string (B tx), .string (B ty), .string (B la)] 23))) := Lib.hid ((Below.refl _ _).alloc (Nat.le_refl _) _)
 have HL : Hid (litN ⟨k, tx, ty, la⟩ = if 65536 < tx.length then 2 else if 0 <= utfF tx 0 then 40 else if iriN ty ≠ 0 then iriN ty else if langN la ≠ 0 then langN la else if (la = []) = (ty = tagged) then 71 else 0) := Lib.hid rfl
 by_cases g1 : 65536 < tx.length
 · have q1 := bigI g1
   have HE : Hid (litN ⟨k, tx, ty, la⟩ = 2) := Lib.hid (by rw [HL.out, if_pos g1])
   go_enter Tryz.func57, Tryz.ntmps57
   go_wp2_with fail
   go_ret
   exact ⟨ret_i64 HE.out.symm, BA.out⟩
 have q1 := bigN g1
 rw [if_neg g1] at HL
 obtain ⟨u, hu⟩ : ∃ u, utfF tx 0 = u := ⟨_, rfl⟩
 rw [hu] at UC HL
 clear hu
 by_cases g2 : 0 <= u
 · have q2 : decide (0 <= u) = true := decide_eq_true g2
   have HE : Hid (litN ⟨k, tx, ty, la⟩ = 40) := Lib.hid (by rw [HL.out, if_pos g2])
   clear g2
   go_enter Tryz.func57, Tryz.ntmps57
   go_wp2_with (go_at_call 80; (with_reducible refine (UC.out _).mono ?_); rintro e w1 ⟨rfl, hb1⟩; have BX1 := BX0.out _ hb1; obtain ⟨bb, c0, c1, c2, c3⟩ := BX1; clear hb1)
   go_ret
   exact ⟨ret_i64 HE.out.symm, bb⟩
 have q2 : decide (0 <= u) = false := decide_eq_false g2
 rw [if_neg g2] at HL
 clear g2
 obtain ⟨i, hi⟩ : ∃ i, iriN ty = i := ⟨_, rfl⟩
 rw [hi] at IR HL
 clear hi
 by_cases g3 : i = 0
 case neg =>
   have q3 : (i != 0) = true := by rw [bne, beq_eq_false_iff_ne.2 g3]; rfl
   have HE : Hid (litN ⟨k, tx, ty, la⟩ = i) := Lib.hid (by rw [HL.out, if_pos g3])
   clear g3
   go_enter Tryz.func57, Tryz.ntmps57
   go_wp2_with (first | (go_at_call 80; (with_reducible refine (UC.out _).mono ?_); rintro e w1 ⟨rfl, hb1⟩; have BX1 := BX0.out _ hb1; obtain ⟨bb, c0, c1, c2, c3⟩ := BX1; clear hb1) | (go_at_call 55; (with_reducible refine (IR.out _).mono ?_); rintro e w2 ⟨rfl, hb2⟩; have BX2 := (BoxT.mk bb c0 c1 c2 c3).later hb2; clear bb c0 c1 c2 c3 hb2; obtain ⟨bb, c0, c1, c2, c3⟩ := BX2))
   go_ret
   exact ⟨ret_i64 HE.out.symm, bb⟩
 subst g3
 rw [if_neg (fun x => x rfl)] at HL
 by_cases g4 : la = []
 · have q4 := isE g4
   have hl0 : langN la = 0 := by unfold langN; rw [if_pos g4]
   rw [hl0, if_neg (fun x => x rfl)] at HL
   clear hl0
   by_cases g5 : ty = tagged
   · have q5 : (ty == tagged) = true := beq_iff_eq.2 g5
     have HE : Hid (litN ⟨k, tx, ty, la⟩ = 71) := Lib.hid (by rw [HL.out, if_pos (by rw [eq_true g4, eq_true g5])])
     unfold tagged at q5
     clear g4 g5 HL
     go_enter Tryz.func57, Tryz.ntmps57
     go_wp2_with (first | (go_at_call 80; (with_reducible refine (UC.out _).mono ?_); rintro e w1 ⟨rfl, hb1⟩; have BX1 := BX0.out _ hb1; obtain ⟨bb, c0, c1, c2, c3⟩ := BX1; clear hb1) | (go_at_call 55; (with_reducible refine (IR.out _).mono ?_); rintro e w2 ⟨rfl, hb2⟩; have BX2 := (BoxT.mk bb c0 c1 c2 c3).later hb2; clear bb c0 c1 c2 c3 hb2; obtain ⟨bb, c0, c1, c2, c3⟩ := BX2))
     go_ret
     exact ⟨ret_i64 HE.out.symm, bb⟩
   · have q5 : (ty == tagged) = false := beq_eq_false_iff_ne.2 g5
     have HE : Hid (litN ⟨k, tx, ty, la⟩ = 0) := Lib.hid (by rw [HL.out, if_neg (by rw [eq_true g4, eq_false g5]; simp)])
     unfold tagged at q5
     clear g4 g5 HL
     go_enter Tryz.func57, Tryz.ntmps57
     go_wp2_with (first | (go_at_call 80; (with_reducible refine (UC.out _).mono ?_); rintro e w1 ⟨rfl, hb1⟩; have BX1 := BX0.out _ hb1; obtain ⟨bb, c0, c1, c2, c3⟩ := BX1; clear hb1) | (go_at_call 55; (with_reducible refine (IR.out _).mono ?_); rintro e w2 ⟨rfl, hb2⟩; have BX2 := (BoxT.mk bb c0 c1 c2 c3).later hb2; clear bb c0 c1 c2 c3 hb2; obtain ⟨bb, c0, c1, c2, c3⟩ := BX2))
     go_ret
     exact ⟨ret_i64 HE.out.symm, bb⟩
 have q4 := isNE g4
 have hlN : langN la = if 65536 < la.length then 2 else if (tagF la).isNone = true then 61 else if lowL la = la then 0 else 61 := by unfold langN; rw [if_neg g4]
 by_cases g5 : 65536 < la.length
 · have q5 := bigI g5
   rw [if_pos g5] at hlN
   have HE : Hid (litN ⟨k, tx, ty, la⟩ = 2) := Lib.hid (by rw [HL.out, hlN]; rfl)
   clear hlN HL g4
   go_enter Tryz.func57, Tryz.ntmps57
   go_wp2_with (first | (go_at_call 80; (with_reducible refine (UC.out _).mono ?_); rintro e w1 ⟨rfl, hb1⟩; have BX1 := BX0.out _ hb1; obtain ⟨bb, c0, c1, c2, c3⟩ := BX1; clear hb1) | (go_at_call 55; (with_reducible refine (IR.out _).mono ?_); rintro e w2 ⟨rfl, hb2⟩; have BX2 := (BoxT.mk bb c0 c1 c2 c3).later hb2; clear bb c0 c1 c2 c3 hb2; obtain ⟨bb, c0, c1, c2, c3⟩ := BX2))
   go_ret
   exact ⟨ret_i64 HE.out.symm, bb⟩
 have q5 := bigN g5
 rw [if_neg g5] at hlN
 cases ht : tagF la with
 | none =>
   rw [ht] at TG hlN
   have HE : Hid (litN ⟨k, tx, ty, la⟩ = 61) := Lib.hid (by rw [HL.out, hlN]; rfl)
   clear hlN HL ht g4
   go_enter Tryz.func57, Tryz.ntmps57
   go_wp2_with (first | (go_at_call 80; (with_reducible refine (UC.out _).mono ?_); rintro e w1 ⟨rfl, hb1⟩; have BX1 := BX0.out _ hb1; obtain ⟨bb, c0, c1, c2, c3⟩ := BX1; clear hb1) | (go_at_call 55; (with_reducible refine (IR.out _).mono ?_); rintro e w2 ⟨rfl, hb2⟩; have BX2 := (BoxT.mk bb c0 c1 c2 c3).later hb2; clear bb c0 c1 c2 c3 hb2; obtain ⟨bb, c0, c1, c2, c3⟩ := BX2))
   refine (TG.out _).mono ?_
   rintro e w3 ⟨rfl, hb3⟩
   have HB := Lib.hid (bb.trans (hb3.mono bb.size))
   clear bb c0 c1 c2 c3 hb3
   simp only [tagCells, noTag]
   go_wp2_with fail
   go_ret
   exact ⟨ret_i64 HE.out.symm, HB.out⟩
 | some tg =>
   rw [ht] at TG hlN
   have HLN := Lib.hid hlN
   have G4 := Lib.hid g4
   clear ht hlN g4
   go_enter Tryz.func57, Tryz.ntmps57
   go_wp2_with (first | (go_at_call 80; (with_reducible refine (UC.out _).mono ?_); rintro e w1 ⟨rfl, hb1⟩; have BX1 := BX0.out _ hb1; obtain ⟨bb, c0, c1, c2, c3⟩ := BX1; clear hb1) | (go_at_call 55; (with_reducible refine (IR.out _).mono ?_); rintro e w2 ⟨rfl, hb2⟩; have BX2 := (BoxT.mk bb c0 c1 c2 c3).later hb2; clear bb c0 c1 c2 c3 hb2; obtain ⟨bb, c0, c1, c2, c3⟩ := BX2))
   refine (TG.out _).mono ?_
   rintro e w3 ⟨a1, a2, d1, d2, rfl, hb3, _⟩
   have BX := (BoxT.mk bb c0 c1 c2 c3).later hb3
   clear bb c0 c1 c2 c3 hb3
   obtain ⟨bb, c0, c1, c2, c3⟩ := BX
   simp only [tagCells]
   go_wp2_with fail
   go_loop [4] (fun i => ∃ j : Nat, j <= la.length /\ i = .int .i64 j /\ Hid (∀ c ∈ la.take j, ¬ (65 <= c.toNat /\ c.toNat <= 90))) (fun i => la.length - (intOf i).toNat)
   case atStart => exact ⟨0, Nat.zero_le _, rfl, Lib.hid (by simp)⟩
   case round =>
     obtain ⟨j, hj, rfl, HA⟩ := hrel
     by_cases hlt : j < la.length
     · have HN : Hid (∀ d, la[j] = d -> ¬ (65 <= d.toNat /\ d.toNat <= 90) -> ∀ c ∈ la.take (j + 1), ¬ (65 <= c.toNat /\ c.toNat <= 90)) := Lib.hid (fun d hd h c hc => by
         rw [List.take_succ_eq_append_getElem hlt] at hc
         rcases List.mem_append.1 hc with hc | hc
         · exact HA.out c hc
         · simp at hc; rw [hc, hd]; exact h)
       have hmem : la[j] ∈ la := List.getElem_mem ..
       obtain ⟨c, hc⟩ : ∃ c, la[j] = c := ⟨_, rfl⟩
       have HC := Lib.hid hc
       rw [hc] at hmem
       have hz : (65 <= (c.toNat : Int) /\ (c.toNat : Int) <= 90) \/ (c.toNat : Int) < 65 \/ 90 < (c.toNat : Int) := by omega
       rcases hz with z | z | z
       · have t0 : decide (65 <= (c.toNat : Int)) = true := decide_eq_true (by omega)
         have t1 : decide ((c.toNat : Int) <= 90) = true := decide_eq_true (by omega)
         have HE : Hid (litN ⟨k, tx, ty, la⟩ = 61) := Lib.hid (by rw [HL.out, HLN.out, if_neg (c := lowL la = la) (fun e => (lowL_same la).1 e c hmem (by omega))]; rfl)
         clear z HL HLN G4 HN HA hmem
         go_wp2_with fail
         go_ret
         exact ⟨ret_i64 HE.out.symm, bb⟩
       · have t0 : decide (65 <= (c.toNat : Int)) = false := decide_eq_false (by omega)
         have HA2 := Lib.hid (HN.out c HC.out (by omega))
         clear z HN HA hmem
         go_wp2_with fail
         go_round
         case rel => exact ⟨j + 1, hlt, by go_num, HA2⟩
         case measure => simp [intOf]; omega
       · have t0 : decide (65 <= (c.toNat : Int)) = true := decide_eq_true (by omega)
         have t1 : decide ((c.toNat : Int) <= 90) = false := decide_eq_false (by omega)
         have HA2 := Lib.hid (HN.out c HC.out (by omega))
         clear z HN HA hmem
         go_wp2_with fail
         go_round
         case rel => exact ⟨j + 1, hlt, by go_num, HA2⟩
         case measure => simp [intOf]; omega
     · obtain rfl : j = la.length := by omega
       have hlow : lowL la = la := (lowL_same la).2 (by have := HA.out; rw [List.take_length] at this; exact this)
       have HL2 : Hid (litN ⟨k, tx, ty, la⟩ = if (la = []) = (ty = tagged) then 71 else 0) := Lib.hid (by rw [HL.out, HLN.out, if_pos hlow]; rfl)
       have fin : ∃ b : Bool, Hid ((ty == tagged) = b) /\ Hid (litN ⟨k, tx, ty, la⟩ = bif b then 0 else 71) := by
         by_cases g7 : ty = tagged
         · exact ⟨true, Lib.hid (beq_iff_eq.2 g7), Lib.hid (by rw [HL2.out, if_neg (by rw [eq_false G4.out, eq_true g7]; simp)]; rfl)⟩
         · exact ⟨false, Lib.hid (beq_eq_false_iff_ne.2 g7), Lib.hid (by rw [HL2.out, if_pos (by rw [eq_false G4.out, eq_false g7])]; rfl)⟩
       obtain ⟨b, QB, HE⟩ := fin
       clear hlow HL HLN HA G4 HL2
       have q7 := QB.out
       unfold tagged at q7
       cases b with
       | true =>
         go_wp2_with fail
         go_ret
         exact ⟨ret_i64 HE.out.symm, bb⟩
       | false =>
         go_wp2_with fail
         go_ret
         exact ⟨ret_i64 HE.out.symm, bb⟩
set_option maxHeartbeats 6400000 in
theorem check_l (t : TermL) (w : World) (hT : TabAt w) (hM : MaxAt w) (h1 : t.text.length <= 1048576) (h2 : t.type.length <= 1048576) (h3 : t.lang.length <= 1048576) :
   Calls Tryz.prog 26 #[termV t] w fun e w' => e = .returned (.int .i64 (termN t)) /\ Below w.heap.size w w' := by
 have LI := Lib.hid (fun u (h : Below w.heap.size w u) => literal_l t u (hM.below h) h1 h2 h3)
 obtain ⟨k, tx, ty, la⟩ := t
 simp only at h1 h2 h3
 unfold termV at LI ⊢
 simp only at LI ⊢
 have IR := Lib.hid (fun u => iriCheck_l tx u (by omega))
 have LA := Lib.hid (fun u (h : Below w.heap.size w u) => label_l tx u (by omega) (hT.below h))
 have BA : Hid (Below w.heap.size w (w.alloc (.cells #[.int .i64 k, .string (B tx), .string (B ty), .string (B la)] 23))) := Lib.hid ((Below.refl _ _).alloc (Nat.le_refl _) _)
 have HT : Hid (termN ⟨k, tx, ty, la⟩ = if k = 1 \/ k = 2 then (if ¬ (ty = [] /\ la = []) then 70 else if k = 1 then iriN tx else if 65536 < tx.length then 2 else labelNum tx) else if k = 3 then litN ⟨k, tx, ty, la⟩ else 70) := Lib.hid rfl
 clear hM hT
 by_cases k12 : k = 1 \/ k = 2
 · have pre : ((k == 1) = true /\ k = 1) \/ ((k == 1) = false /\ (k == 2) = true /\ k ≠ 1) := by
     rcases k12 with rfl | rfl
     · exact .inl ⟨rfl, rfl⟩
     · exact .inr ⟨rfl, rfl, by omega⟩
   rw [if_pos k12] at HT
   clear k12
   by_cases g1 : ty = []
   · have q1 := isE g1
     by_cases g2 : la = []
     · have q2 := isE g2
       rw [if_neg (fun h => h ⟨g1, g2⟩)] at HT
       clear g1 g2
       rcases pre with ⟨p1, p2⟩ | ⟨p1, p2, p3⟩
       · have HE : Hid (termN ⟨k, tx, ty, la⟩ = iriN tx) := Lib.hid (by rw [HT.out, if_pos p2])
         clear HT p2
         go_enter Tryz.func26, Tryz.ntmps26
         go_wp2_with (go_at_call 51; (with_reducible refine (IR.out _).mono ?_); rintro e w1 ⟨rfl, hb1⟩)
         go_ret
         exact ⟨ret_i64 HE.out.symm, BA.out.trans (hb1.mono BA.out.size)⟩
       · by_cases g3 : 65536 < tx.length
         · have q3 := bigI g3
           have HE : Hid (termN ⟨k, tx, ty, la⟩ = 2) := Lib.hid (by rw [HT.out, if_neg p3, if_pos g3])
           clear HT p3
           go_enter Tryz.func26, Tryz.ntmps26
           go_wp2_with fail
           go_ret
           exact ⟨ret_i64 HE.out.symm, BA.out⟩
         · have q3 := bigN g3
           have HE : Hid (termN ⟨k, tx, ty, la⟩ = labelNum tx) := Lib.hid (by rw [HT.out, if_neg p3, if_neg g3])
           clear HT p3
           go_enter Tryz.func26, Tryz.ntmps26
           go_wp2_with (go_at_call 52; (with_reducible refine (LA.out _ BA.out).mono ?_); rintro e w1 ⟨rfl, rfl⟩)
           go_ret
           exact ⟨ret_i64 HE.out.symm, BA.out⟩
     · have q2 := isNE g2
       have HE : Hid (termN ⟨k, tx, ty, la⟩ = 70) := Lib.hid (by rw [HT.out, if_pos (fun h => g2 h.2)])
       clear HT g1 g2
       rcases pre with ⟨p1, p2⟩ | ⟨p1, p2, p3⟩
       · clear p2
         go_enter Tryz.func26, Tryz.ntmps26
         go_wp2_with fail
         go_ret
         exact ⟨ret_i64 HE.out.symm, BA.out⟩
       · clear p3
         go_enter Tryz.func26, Tryz.ntmps26
         go_wp2_with fail
         go_ret
         exact ⟨ret_i64 HE.out.symm, BA.out⟩
   · have q1 := isNE g1
     have HE : Hid (termN ⟨k, tx, ty, la⟩ = 70) := Lib.hid (by rw [HT.out, if_pos (fun h => g1 h.1)])
     clear HT g1
     rcases pre with ⟨p1, p2⟩ | ⟨p1, p2, p3⟩
     · clear p2
       go_enter Tryz.func26, Tryz.ntmps26
       go_wp2_with fail
       go_ret
       exact ⟨ret_i64 HE.out.symm, BA.out⟩
     · clear p3
       go_enter Tryz.func26, Tryz.ntmps26
       go_wp2_with fail
       go_ret
       exact ⟨ret_i64 HE.out.symm, BA.out⟩
 · have p1 : (k == 1) = false := beq_eq_false_iff_ne.2 (by omega)
   have p2 : (k == 2) = false := beq_eq_false_iff_ne.2 (by omega)
   rw [if_neg k12] at HT
   clear k12
   by_cases k3 : k = 3
   · have p3 : (k == 3) = true := beq_iff_eq.2 k3
     have HE : Hid (termN ⟨k, tx, ty, la⟩ = litN ⟨k, tx, ty, la⟩) := Lib.hid (by rw [HT.out, if_pos k3])
     clear HT k3
     go_enter Tryz.func26, Tryz.ntmps26
     go_wp2_with (go_at_call 53; (with_reducible refine (LI.out _ BA.out).mono ?_); rintro e w1 ⟨rfl, hb1⟩)
     go_ret
     exact ⟨ret_i64 HE.out.symm, BA.out.trans (hb1.mono BA.out.size)⟩
   · have p3 : (k == 3) = false := beq_eq_false_iff_ne.2 k3
     have HE : Hid (termN ⟨k, tx, ty, la⟩ = 70) := Lib.hid (by rw [HT.out, if_neg k3])
     clear HT k3
     go_enter Tryz.func26, Tryz.ntmps26
     go_wp2_with fail
     go_ret
     exact ⟨ret_i64 HE.out.symm, BA.out⟩
set_option maxHeartbeats 6400000 in
theorem refCheck_l (t : TermL) (w : World) (h1 : t.text.length <= 1048576) (h2 : t.type.length <= 1048576) (h3 : t.lang.length <= 1048576) :
   Calls Tryz.prog 28 #[termV t] w fun e w' => e = .returned (.int .i64 (termN t)) /\ Below w.heap.size w w' := by
 have LI := Lib.hid (fun u => refLiteral_l t u h1 h2 h3)
 obtain ⟨k, tx, ty, la⟩ := t
 simp only at h1 h2 h3
 unfold termV at LI ⊢
 simp only at LI ⊢
 have IR := Lib.hid (fun u => refIriCheck_l tx u (by omega))
 have LA := Lib.hid (fun u => refLabel_l tx u (by omega))
 have BA : Hid (Below w.heap.size w (w.alloc (.cells #[.int .i64 k, .string (B tx), .string (B ty), .string (B la)] 23))) := Lib.hid ((Below.refl _ _).alloc (Nat.le_refl _) _)
 have HT : Hid (termN ⟨k, tx, ty, la⟩ = if k = 1 \/ k = 2 then (if ¬ (ty = [] /\ la = []) then 70 else if k = 1 then iriN tx else if 65536 < tx.length then 2 else labelNum tx) else if k = 3 then litN ⟨k, tx, ty, la⟩ else 70) := Lib.hid rfl
 skip
 by_cases k12 : k = 1 \/ k = 2
 · have pre : ((k == 1) = true /\ k = 1) \/ ((k == 1) = false /\ (k == 2) = true /\ k ≠ 1) := by
     rcases k12 with rfl | rfl
     · exact .inl ⟨rfl, rfl⟩
     · exact .inr ⟨rfl, rfl, by omega⟩
   rw [if_pos k12] at HT
   clear k12
   by_cases g1 : ty = []
   · have q1 := isE g1
     by_cases g2 : la = []
     · have q2 := isE g2
       rw [if_neg (fun h => h ⟨g1, g2⟩)] at HT
       clear g1 g2
       rcases pre with ⟨p1, p2⟩ | ⟨p1, p2, p3⟩
       · have HE : Hid (termN ⟨k, tx, ty, la⟩ = iriN tx) := Lib.hid (by rw [HT.out, if_pos p2])
         clear HT p2
         go_enter Tryz.func28, Tryz.ntmps28
         go_wp2_with (go_at_call 55; (with_reducible refine (IR.out _).mono ?_); rintro e w1 ⟨rfl, hb1⟩)
         go_ret
         exact ⟨ret_i64 HE.out.symm, BA.out.trans (hb1.mono BA.out.size)⟩
       · by_cases g3 : 65536 < tx.length
         · have q3 := bigI g3
           have HE : Hid (termN ⟨k, tx, ty, la⟩ = 2) := Lib.hid (by rw [HT.out, if_neg p3, if_pos g3])
           clear HT p3
           go_enter Tryz.func28, Tryz.ntmps28
           go_wp2_with fail
           go_ret
           exact ⟨ret_i64 HE.out.symm, BA.out⟩
         · have q3 := bigN g3
           have HE : Hid (termN ⟨k, tx, ty, la⟩ = labelNum tx) := Lib.hid (by rw [HT.out, if_neg p3, if_neg g3])
           clear HT p3
           go_enter Tryz.func28, Tryz.ntmps28
           go_wp2_with (go_at_call 56; (with_reducible refine (LA.out _).mono ?_); rintro e w1 ⟨rfl, hb1⟩)
           go_ret
           exact ⟨ret_i64 HE.out.symm, BA.out.trans (hb1.mono BA.out.size)⟩
     · have q2 := isNE g2
       have HE : Hid (termN ⟨k, tx, ty, la⟩ = 70) := Lib.hid (by rw [HT.out, if_pos (fun h => g2 h.2)])
       clear HT g1 g2
       rcases pre with ⟨p1, p2⟩ | ⟨p1, p2, p3⟩
       · clear p2
         go_enter Tryz.func28, Tryz.ntmps28
         go_wp2_with fail
         go_ret
         exact ⟨ret_i64 HE.out.symm, BA.out⟩
       · clear p3
         go_enter Tryz.func28, Tryz.ntmps28
         go_wp2_with fail
         go_ret
         exact ⟨ret_i64 HE.out.symm, BA.out⟩
   · have q1 := isNE g1
     have HE : Hid (termN ⟨k, tx, ty, la⟩ = 70) := Lib.hid (by rw [HT.out, if_pos (fun h => g1 h.1)])
     clear HT g1
     rcases pre with ⟨p1, p2⟩ | ⟨p1, p2, p3⟩
     · clear p2
       go_enter Tryz.func28, Tryz.ntmps28
       go_wp2_with fail
       go_ret
       exact ⟨ret_i64 HE.out.symm, BA.out⟩
     · clear p3
       go_enter Tryz.func28, Tryz.ntmps28
       go_wp2_with fail
       go_ret
       exact ⟨ret_i64 HE.out.symm, BA.out⟩
 · have p1 : (k == 1) = false := beq_eq_false_iff_ne.2 (by omega)
   have p2 : (k == 2) = false := beq_eq_false_iff_ne.2 (by omega)
   rw [if_neg k12] at HT
   clear k12
   by_cases k3 : k = 3
   · have p3 : (k == 3) = true := beq_iff_eq.2 k3
     have HE : Hid (termN ⟨k, tx, ty, la⟩ = litN ⟨k, tx, ty, la⟩) := Lib.hid (by rw [HT.out, if_pos k3])
     clear HT k3
     go_enter Tryz.func28, Tryz.ntmps28
     go_wp2_with (go_at_call 57; (with_reducible refine (LI.out _).mono ?_); rintro e w1 ⟨rfl, hb1⟩)
     go_ret
     exact ⟨ret_i64 HE.out.symm, BA.out.trans (hb1.mono BA.out.size)⟩
   · have p3 : (k == 3) = false := beq_eq_false_iff_ne.2 k3
     have HE : Hid (termN ⟨k, tx, ty, la⟩ = 70) := Lib.hid (by rw [HT.out, if_neg k3])
     clear HT k3
     go_enter Tryz.func28, Tryz.ntmps28
     go_wp2_with fail
     go_ret
     exact ⟨ret_i64 HE.out.symm, BA.out⟩
end Go.Proofs.YtfocpjcbfbbpgaaGreatDoor
