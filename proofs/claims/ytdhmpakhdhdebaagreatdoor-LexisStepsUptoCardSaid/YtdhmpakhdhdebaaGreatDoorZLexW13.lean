/-
  lexis.Lexer.quoted: a contract. By an AI agent.
-/
import Derived.Test.YtdhmpakhdhdebaaGreatDoorZLexW12
namespace Go.Proofs.YtdhmpakhdhdebaaGreatDoor
open Go.RowKit
set_option maxRecDepth 100000
theorem three_i {l : List UInt8} {q : UInt8} {j : Nat} (h0 : j + 2 < l.length) : threeB l q j = (l[j] == q && (l[j + 1] == q && l[j + 2] == q)) := by
 unfold threeB
 rw [decide_eq_true h0, Bool.true_and]
 simp [List.getD, show j < l.length by omega, show j + 1 < l.length by omega, h0]
theorem three_no {l : List UInt8} {q : UInt8} {j : Nat} (h0 : ¬ j + 2 < l.length) : threeB l q j = false := by
 unfold threeB
 rw [decide_eq_false h0, Bool.false_and]
theorem beq_turn (a b : UInt8) : (a == b) = (b == a) := by
 by_cases h : a = b
 · rw [h]
 · rw [beq_eq_false_iff_ne.2 h, beq_eq_false_iff_ne.2 (fun e => h e.symm)]
theorem has_three (l : List UInt8) (j : Nat) (q : UInt8) : Lib.hasPrefix (List.drop j l) [q, q, q] = threeB l q j := by
 by_cases h : j + 2 < l.length
 · rw [three_i h, List.drop_eq_getElem_cons (show j < l.length by omega), List.drop_eq_getElem_cons (show j + 1 < l.length by omega), List.drop_eq_getElem_cons (show j + 1 + 1 < l.length from h), beq_turn l[j], beq_turn l[j + 1], beq_turn l[j + 2]]
   show (q == l[j] && (q == l[j + 1] && (q == l[j + 1 + 1] && true))) = _
   rw [Bool.and_true]
 · rw [three_no h]
   have hd : (List.drop j l).length <= 2 := by simp; omega
   rcases hl : List.drop j l with _ | ⟨a, _ | ⟨b, _ | ⟨c, t⟩⟩⟩
   · rfl
   · show (q == a && false) = false
     rw [Bool.and_false]
   · show (q == a && (q == b && false)) = false
     rw [Bool.and_false, Bool.and_false]
   · rw [hl] at hd; simp at hd
theorem threeB_in {l : List UInt8} {q : UInt8} {i : Nat} {long : Bool} (hi : i < l.length) (h : threeB l q i = long) : i + markN long <= l.length := by
 cases long
 · exact hi
 · by_cases h2 : i + 2 < l.length
   · exact h2
   · rw [three_no h2] at h; cases h
def markL (q : UInt8) (long : Bool) : List UInt8 := if long = true then [q, q, q] else [q]
theorem markL_len (q : UInt8) (long : Bool) : (markL q long).length = markN long := by cases long <;> rfl
theorem has_mark {l : List UInt8} {q : UInt8} {j : Nat} (long : Bool) (h : j < l.length) : Lib.hasPrefix (List.drop j l) (markL q long) = closeB l q long j := by
 cases long
 · show Lib.hasPrefix (List.drop j l) [q] = (l.getD j 0 == q)
   rw [has_one]
   by_cases e : l.getD j 0 = q
   · rw [e, decide_eq_true ⟨h, rfl⟩, beq_self_eq_true]
   · rw [beq_eq_false_iff_ne.2 e, decide_eq_false (fun x => e x.2)]
 · exact has_three l j q
set_option maxHeartbeats 12800000 in
theorem lexQuoted_l (l : List UInt8) (bad : Int) (i : Nat) (ev : Value) (b : Nat) (w : World) (h : LexAt w b l bad i ev) (hi : i < l.length) (hl : l.length <= 4194304) (_hq : l.getD i 0 = 34 \/ l.getD i 0 = 39) :
   Calls Tryz.prog 68 #[.pointer (some ⟨b, 0, none⟩)] w fun e w' => TokRet e i (quoteG l i) /\ Below w.heap.size w w' := by
 obtain ⟨q, hqe⟩ : ∃ q, l.getD i 0 = q := ⟨_, rfl⟩
 obtain ⟨long, hlo⟩ : ∃ long, threeB l q i = long := ⟨_, rfl⟩
 have HTB : Hid (threeB l (l.getD i 0) i = long /\ l.getD i 0 = q) := Lib.hid ⟨by rw [hqe]; exact hlo, hqe⟩
 have hmk : List.take (i + 1 - i) (List.drop i l) = [q] := by
   rw [Nat.add_sub_cancel_left, List.drop_eq_getElem_cons hi]
   show [l[i]] = [q]
   rw [<- hqe]
   simp [List.getD, hi]
 have hmk2 : List.take 1 (List.drop i l) = [q] := by rw [<- hmk, Nat.add_sub_cancel_left]
 have HQ3 : Hid (∀ u, Calls Tryz.prog 73 #[.string (B (List.drop i l)), .string (B [q, q, q])] u fun e w' => e = .returned (.bool long) /\ w' = u) := Lib.hid (fun u => by
   have := Tryz.strings_HasPrefix (B (List.drop i l)) (B [q, q, q]) u
   rw [show (B (List.drop i l)).data.toList = List.drop i l from B_toList _, show (B [q, q, q]).data.toList = [q, q, q] from B_toList _, has_three, hlo] at this
   exact this)
 have HQM : Hid (∀ (j : Nat), j < l.length -> ∀ u, Calls Tryz.prog 73 #[.string (B (List.drop j l)), .string (B (markL q long))] u fun e w' => e = .returned (.bool (closeB l q long j)) /\ w' = u) := Lib.hid (fun j hj u => by
   have := Tryz.strings_HasPrefix (B (List.drop j l)) (B (markL q long)) u
   rw [show (B (List.drop j l)).data.toList = List.drop j l from B_toList _, show (B (markL q long)).data.toList = markL q long from B_toList _, has_mark long hj] at this
   exact this)
 have SA := Lib.hid (fun (a : Nat) (s : List UInt8) (u : World) (ha : a <= 16777216) (hs : s.length <= 4194304) => lexSaid_l (some ⟨b, 0, none⟩) a s 1 u (by omega) ha)
 have tk : List.take (l.length - i) (List.drop i l) = List.drop i l := List.take_of_length_le (by simp)
 have W1 : IntKind.i64.wrap ((i : Int) + 1) = (i : Int) + 1 := IntWalk.i64_in _ (by omega)
 have m0 : (0 : Int) <= (i : Int) + 1 := by omega
 have m1 : (i : Int) <= (i : Int) + 1 := by omega
 have m2 : (i : Int) + 1 <= (l.length : Int) := by omega
 clear hqe hlo
 obtain ⟨W, hW⟩ : ∃ W, (w.alloc (.cells #[.int .i64 0, .string ⟨#[]⟩, .string ⟨#[]⟩, .string ⟨#[]⟩, .int .i64 0, .int .i64 0] 50)).alloc (.cells #[.int .i64 0, .int .i64 0] 111) = W := ⟨_, rfl⟩
 have HB0 : Hid (Below w.heap.size w W) := Lib.hid (by rw [<- hW]; exact ((Below.refl _ _).alloc (Nat.le_refl _) _).alloc (by simp) _)
 have HK : Hid (TkAt W w.heap.size) := Lib.hid (by rw [<- hW]; exact tkAt_of (tk_new w).1 (tk_new w).2)
 have HX := Lib.hid (h.below HB0.out)
 have hn0 : ¬ b = w.heap.size := by have := h.lt; omega
 have hn1 : ¬ b = w.heap.size + 1 := by have := h.lt; omega
 have k0 : (0 : Int) <= (i : Int) := by omega
 have k1 : (i : Int) <= (l.length : Int) := by omega
 obtain ⟨x0, x1, x2, x3, f0, f1, f2, f3⟩ := RowAt.four HX.out
 have hbl := HX.out.lt
 obtain ⟨a0, a1, a2, a3, a4, a5, p0, p1, p2, p3, p4, p5, d0, d1, e0, e1, hlt⟩ := HK.out
 have hlt0 := Nat.lt_of_succ_lt hlt
 go_enter Tryz.func68, Tryz.ntmps68
 go_wp2_with fail
 go_quiet (fail)
 go_wp2_with fail
 go_quiet ((go_at_call 73; exact quiet_same2 (HQ3.out _)))
 go_upto_if 41 with fail
 go_cut [4] from 42 to 42 (fun x4 wx => x4 = .string (B (markL q long)) /\ Hid (LexAt wx b l bad i ev) /\ Hid (TkAt wx w.heap.size) /\ Hid (Below w.heap.size w wx))
 case first =>
   cases long
   · go_wp2_with fail
     go_meet
     exact ⟨rfl, HX, Lib.hid (by first | exact HK.out.drewN _ | exact (HK.out.drewN _).drewN _), Lib.hid (by first | exact below_drewN_h HB0.out _ | exact below_drewN_h (below_drewN_h HB0.out _) _)⟩
   · go_wp2_with fail
     go_meet
     exact ⟨rfl, HX, Lib.hid (by first | exact HK.out.drewN _ | exact (HK.out.drewN _).drewN _), Lib.hid (by first | exact below_drewN_h HB0.out _ | exact below_drewN_h (below_drewN_h HB0.out _) _)⟩
 case rest =>
   obtain ⟨rfl, HX2, HK2, HB2⟩ := hcut
   obtain ⟨W0, hW0⟩ : ∃ W0 : World, W0 = wc := ⟨_, rfl⟩
   subst hW0
   clear HX HK HB0 x0 x1 x2 x3 f0 f1 f2 f3 hbl a0 a1 a2 a3 a4 a5 p0 p1 p2 p3 p4 p5 d0 d1 e0 e1 hlt hlt0
   have HX := HX2
   have HK := HK2
   have HB0 := HB2
   clear HX2 HK2 HB2
   obtain ⟨x0, x1, x2, x3, f0, f1, f2, f3⟩ := RowAt.four HX.out
   have hbl := HX.out.lt
   obtain ⟨a0, a1, a2, a3, a4, a5, p0, p1, p2, p3, p4, p5, d0, d1, e0, e1, hlt⟩ := HK.out
   have hlt0 := Nat.lt_of_succ_lt hlt
   obtain ⟨mk, hmkl⟩ : ∃ mk, markL q long = mk := ⟨_, rfl⟩
   have hml := markL_len q long
   rw [hmkl] at HQM hml ⊢
   have hmz := threeB_in hi HTB.out.1
   obtain ⟨f, hf⟩ : ∃ f, i + markN long = f := ⟨_, rfl⟩
   have hmf : (i : Int) + (mk.length : Int) = (f : Int) := by omega
   have WF : IntKind.i64.wrap ((i : Int) + (mk.length : Int)) = (f : Int) := by rw [hmf]; exact IntWalk.i64_in _ (by omega)
   have HF := Lib.hid hf
   have HM := Lib.hid hml
   have HTQ : Hid (quoteG l i = match scanQ l q long f with
     | .inr p => .inr (p, 100)
     | .inl e => match unescF 1 (cutF l f e) 0 with
       | .inl t => .inl ⟨4, t, [], [], (i : Nat), (e + markN long : Nat)⟩
       | .inr (p, n) => .inr (f + p, n)) := Lib.hid (by unfold quoteG; rw [HTB.out.2]; rw [HTB.out.2] at HTB; rw [HTB.out.1, hf]; rfl)
   have hif : i < f := by rw [<- hf]; cases long <;> simp [markN]
   have hfl : f <= l.length := by rw [<- hf]; exact hmz
   clear hmkl hml hf hmf HQ3 hmk hmk2 tk HTB W1 m0 m1 m2 hmz
   go_wp2_with fail
   go_loopw [8] (fun z wr => ∃ j : Nat, z = .int .i64 (j : Int) /\ f <= j /\ j <= l.length /\ Hid (scanQ l q long f = scanQ l q long j) /\ Hid (LexAt wr b l bad i ev) /\ Hid (TkAt wr w.heap.size) /\ Hid (Below w.heap.size w wr)) (fun z _ => l.length - (intOf z).toNat)
   case atStart => exact ⟨f, rfl, Nat.le_refl _, hfl, Lib.hid rfl, HX, HK, HB0⟩
   case round =>
     obtain ⟨j, rfl, hfj, hj, HE, HX2, HK2, HB2⟩ := hrel
     obtain ⟨W1, hW1⟩ : ∃ W1 : World, W1 = wr := ⟨_, rfl⟩
     subst hW1
     clear HX HK HB0 x0 x1 x2 x3 f0 f1 f2 f3 hbl a0 a1 a2 a3 a4 a5 p0 p1 p2 p3 p4 p5 d0 d1 e0 e1 hlt hlt0
     have HX := HX2
     have HK := HK2
     have HB0 := HB2
     clear HX2 HK2 HB2
     obtain ⟨x0, x1, x2, x3, f0, f1, f2, f3⟩ := RowAt.four HX.out
     have hbl := HX.out.lt
     obtain ⟨a0, a1, a2, a3, a4, a5, p0, p1, p2, p3, p4, p5, d0, d1, e0, e1, hlt⟩ := HK.out
     have hlt0 := Nat.lt_of_succ_lt hlt
     have hbW := HX.out.lt
     have hlW := HK.out.lt
     have j0 : (0 : Int) <= (j : Int) := by omega
     have j1 : (0 : Int) <= (j : Int) + 1 := by omega
     have WJ1 : IntKind.i64.wrap ((j : Int) + 1) = (j : Int) + 1 := IntWalk.i64_in _ (by omega)
     have WJ2 : IntKind.i64.wrap ((j : Int) + 1 + 1) = (j : Int) + 1 + 1 := IntWalk.i64_in _ (by omega)
     by_cases hjl : j < l.length
     case neg =>
       have c1 : decide ((j : Int) < (l.length : Int)) = false := decide_eq_false (by omega)
       have c2 : decide (j < l.length) = false := decide_eq_false hjl
       have HI : Hid (quoteG l i = .inr (l.length, 100)) := Lib.hid (by rw [HTQ.out, HE.out, scanQ_end (by omega)])
       clear HE SA HTQ HQM WF
       go_wp2_with fail
       go_region
       all_goals (go_wp2_with fail)
       all_goals exact tok_done_d (V := W1) rfl HK.out HB0.out rfl rfl (by rw [HI.out]; exact ⟨_, _, _, _, _, _, rfl⟩)
     have c1 : decide ((j : Int) < (l.length : Int)) = true := decide_eq_true (by omega)
     have c2 : decide (j < l.length) = true := decide_eq_true hjl
     have c3 : (j : Int) < (l.length : Int) := by omega
     have hg : l.getD j 0 = l[j] := by simp [List.getD, hjl]
     have tk : List.take (l.length - j) (List.drop j l) = List.drop j l := List.take_of_length_le (by simp)
     have HQC := Lib.hid (HQM.out j hjl)
     obtain ⟨cb, hcb⟩ : ∃ cb, closeB l q long j = cb := ⟨_, rfl⟩
     rw [hcb] at HQC
     cases cb
     case true =>
       have HS : Hid (scanQ l q long f = .inl j) := Lib.hid (by rw [HE.out, scanQ_hit hjl hcb])
       obtain ⟨s, hs⟩ : ∃ s, List.take (j - f) (List.drop f l) = s := ⟨_, rfl⟩
       have hsl : s.length <= 4194304 := by rw [<- hs]; simp; omega
       have SD := Lib.hid (fun (u : World) => SA.out f s u (by omega) hsl)
       have n0 : (0 : Int) <= (f : Int) := by omega
       have n1 : (f : Int) <= (j : Int) := by omega
       have n2 : (j : Int) <= (l.length : Int) := by omega
       obtain ⟨e, he⟩ : ∃ e, j + markN long = e := ⟨_, rfl⟩
       have hel : e <= l.length + 3 := by rw [<- he]; cases long <;> simp [markN] <;> omega
       have HEE := Lib.hid he
       have WE : IntKind.i64.wrap ((j : Int) + (mk.length : Int)) = (e : Int) := by rw [show (j : Int) + (mk.length : Int) = (e : Int) by have := HM.out; omega]; exact IntWalk.i64_in _ (by omega)
       have WG : IntKind.i64.wrap ((e : Int) - (i : Int)) = (e : Int) - (i : Int) := IntWalk.i64_in _ (by have := HM.out; omega)
       obtain ⟨y, hy⟩ : ∃ y, unescF 1 s 0 = y := ⟨_, rfl⟩
       rw [hy] at SD
       clear hcb hg SA HQM HE he
       rcases y with t | ⟨p, n⟩
       · have HI : Hid (quoteG l i = .inl ⟨4, t, [], [], (i : Nat), (e : Nat)⟩) := Lib.hid (by rw [HTQ.out, HS.out]; simp only; rw [show cutF l f j = s from hs, hy]; simp only; rw [HEE.out])
         have SD2 : Hid (∀ u, Calls Tryz.prog 97 #[.pointer (some ⟨b, 0, none⟩), .int .i64 (f : Int), .string (B s), .int .i64 1] u fun e w' => e = .returned (.tuple #[.string (B t), .agg #[.int .i64 0, .int .i64 0]]) /\ Below u.heap.size u w') := SD
         clear SD HS hy HTQ
         have SD := SD2
         clear SD2
         go_upto_region 12 with (first | (go_at_call 73; (with_reducible refine (HQC.out _).mono ?_); rintro e w3 ⟨rfl, hw⟩; rw [hw]; clear hw) | (go_at_call 97; (with_reducible refine (SD.out _).mono ?_); rintro e w3 ⟨rfl, hb⟩; replace HX := Lib.hid (@LexAt.below _ _ b l bad i ev (by exact HX.out) hb); replace HK := Lib.hid (@TkAt.below _ _ _ (by exact TkAt.same HK.out) hb); replace HB0 := Lib.hid (below_same HB0.out hb); clear x0 x1 x2 x3 f0 f1 f2 f3 hbl a0 a1 a2 a3 a4 a5 p0 p1 p2 p3 p4 p5 d0 d1 e0 e1 hlt hlt0 hb; obtain ⟨x0, x1, x2, x3, f0, f1, f2, f3⟩ := RowAt.four HX.out; have hbl := HX.out.lt; obtain ⟨a0, a1, a2, a3, a4, a5, p0, p1, p2, p3, p4, p5, d0, d1, e0, e1, hlt⟩ := HK.out; have hlt0 := Nat.lt_of_succ_lt hlt))
         obtain ⟨V, hV⟩ : ∃ V, w3.alloc (.cells #[(.int .i64 0), (.int .i64 0)] 111) = V := ⟨_, rfl⟩; rw [hV]; have hbv : Below w3.heap.size w3 V := (by rw [<- hV]; exact (Below.refl _ _).alloc (Nat.le_refl _) _); have t8 := boxP_at (w := w3) (x := (.int .i64 0)) (y := (.int .i64 0)) (T := 111); rw [hV] at t8; obtain ⟨t0, t1⟩ := t8; have h81 : ¬ w3.heap.size = w.heap.size := (by omega); have h82 : ¬ w3.heap.size = w.heap.size + 1 := (by omega); replace HX := Lib.hid (HX.out.below hbv); replace HK := Lib.hid (HK.out.below hbv); replace HB0 := Lib.hid (HB0.out.trans (hbv.mono HB0.out.size)); clear hV hbv; clear x0 x1 x2 x3 f0 f1 f2 f3 hbl a0 a1 a2 a3 a4 a5 p0 p1 p2 p3 p4 p5 d0 d1 e0 e1 hlt hlt0; obtain ⟨x0, x1, x2, x3, f0, f1, f2, f3⟩ := RowAt.four HX.out; have hbl := HX.out.lt; obtain ⟨a0, a1, a2, a3, a4, a5, p0, p1, p2, p3, p4, p5, d0, d1, e0, e1, hlt⟩ := HK.out; have hlt0 := Nat.lt_of_succ_lt hlt
         go_region
         all_goals (go_wp2_with fail)
         all_goals exact tok_done_d (V := V) rfl HK.out HB0.out rfl rfl (by rw [HI.out]; exact tokRet_of (t := ⟨4, t, [], [], (i : Nat), (e : Nat)⟩) rfl rfl rfl rfl)
       · have HI : Hid (quoteG l i = .inr (f + p, n)) := Lib.hid (by rw [HTQ.out, HS.out]; simp only; rw [show cutF l f j = s from hs, hy])
         have SD2 : Hid (∀ u, Calls Tryz.prog 97 #[.pointer (some ⟨b, 0, none⟩), .int .i64 (f : Int), .string (B s), .int .i64 1] u fun e w' => e = .returned (.tuple #[.string ⟨#[]⟩, .agg #[.int .i64 ((f : Int) + (p : Int)), .int .i64 n]]) /\ Below u.heap.size u w') := Lib.hid (fun u => by have h := SD.out u; simp only [saidV] at h; exact h)
         clear SD HS hy HTQ
         have SD := SD2
         clear SD2
         go_upto_region 12 with (first | (go_at_call 73; (with_reducible refine (HQC.out _).mono ?_); rintro e w3 ⟨rfl, hw⟩; rw [hw]; clear hw) | (go_at_call 97; (with_reducible refine (SD.out _).mono ?_); rintro e w3 ⟨rfl, hb⟩; replace HX := Lib.hid (@LexAt.below _ _ b l bad i ev (by exact HX.out) hb); replace HK := Lib.hid (@TkAt.below _ _ _ (by exact TkAt.same HK.out) hb); replace HB0 := Lib.hid (below_same HB0.out hb); clear x0 x1 x2 x3 f0 f1 f2 f3 hbl a0 a1 a2 a3 a4 a5 p0 p1 p2 p3 p4 p5 d0 d1 e0 e1 hlt hlt0 hb; obtain ⟨x0, x1, x2, x3, f0, f1, f2, f3⟩ := RowAt.four HX.out; have hbl := HX.out.lt; obtain ⟨a0, a1, a2, a3, a4, a5, p0, p1, p2, p3, p4, p5, d0, d1, e0, e1, hlt⟩ := HK.out; have hlt0 := Nat.lt_of_succ_lt hlt))
         obtain ⟨V, hV⟩ : ∃ V, w3.alloc (.cells #[(.int .i64 ((f : Int) + (p : Int))), (.int .i64 n)] 111) = V := ⟨_, rfl⟩; rw [hV]; have hbv : Below w3.heap.size w3 V := (by rw [<- hV]; exact (Below.refl _ _).alloc (Nat.le_refl _) _); have t8 := boxP_at (w := w3) (x := (.int .i64 ((f : Int) + (p : Int)))) (y := (.int .i64 n)) (T := 111); rw [hV] at t8; obtain ⟨t0, t1⟩ := t8; have h81 : ¬ w3.heap.size = w.heap.size := (by omega); have h82 : ¬ w3.heap.size = w.heap.size + 1 := (by omega); replace HX := Lib.hid (HX.out.below hbv); replace HK := Lib.hid (HK.out.below hbv); replace HB0 := Lib.hid (HB0.out.trans (hbv.mono HB0.out.size)); clear hV hbv; clear x0 x1 x2 x3 f0 f1 f2 f3 hbl a0 a1 a2 a3 a4 a5 p0 p1 p2 p3 p4 p5 d0 d1 e0 e1 hlt hlt0; obtain ⟨x0, x1, x2, x3, f0, f1, f2, f3⟩ := RowAt.four HX.out; have hbl := HX.out.lt; obtain ⟨a0, a1, a2, a3, a4, a5, p0, p1, p2, p3, p4, p5, d0, d1, e0, e1, hlt⟩ := HK.out; have hlt0 := Nat.lt_of_succ_lt hlt
         go_region
         all_goals (go_wp2_with fail)
         all_goals exact tok_done_d (V := V) rfl HK.out HB0.out rfl rfl (by rw [HI.out]; exact ⟨_, _, _, _, _, _, by rw [show (((f + p : Nat) : Nat) : Int) = (f : Int) + (p : Int) by omega]⟩)
     case false =>
       by_cases h92 : l[j] = 92
       · have y92 : ((l[j].toNat : Int) == 92) = true := by rw [h92]; rfl
         have hg9 : l.getD j 0 = 92 := by rw [hg]; exact h92
         by_cases hj1 : j + 1 < l.length
         case neg =>
           have e1 : decide ((j : Int) + 1 < (l.length : Int)) = false := decide_eq_false (by omega)
           have e2 : decide (j + 1 < l.length) = false := decide_eq_false hj1
           have z10 : ((l[j].toNat : Int) == 10) = false := by rw [h92]; rfl
           have z13 : ((l[j].toNat : Int) == 13) = false := by rw [h92]; rfl
           clear h92 hg
           cases long
           ·
             have HN : Hid (scanQ l q false f = scanQ l q false (j + 1)) := Lib.hid (by rw [HE.out]; exact by rw [scanQ_esc hjl hcb hg9 (.inr (.inl (by omega))), scanQ_end (by omega), scanQ_end (by omega)])
             clear HE HTQ SA HQM WF
             go_wp2_with (go_at_call 73; (with_reducible refine (HQC.out _).mono ?_); rintro e w3 ⟨rfl, hw⟩; rw [hw]; clear hw)
             go_roundw
             case rel => exact ⟨(j + 1), by go_num, by omega, by omega, HN, HX, HK, HB0⟩
             case measure => simp [intOf]; omega
           ·
             have HN : Hid (scanQ l q true f = scanQ l q true (j + 1)) := Lib.hid (by rw [HE.out]; exact by rw [scanQ_esc hjl hcb hg9 (.inr (.inl (by omega))), scanQ_end (by omega), scanQ_end (by omega)])
             clear HE HTQ SA HQM WF
             go_wp2_with (go_at_call 73; (with_reducible refine (HQC.out _).mono ?_); rintro e w3 ⟨rfl, hw⟩; rw [hw]; clear hw)
             go_roundw
             case rel => exact ⟨(j + 1), by go_num, by omega, by omega, HN, HX, HK, HB0⟩
             case measure => simp [intOf]; omega
         have e1 : decide ((j : Int) + 1 < (l.length : Int)) = true := decide_eq_true (by omega)
         have e2 : decide (j + 1 < l.length) = true := decide_eq_true hj1
         have e3 : (j : Int) + 1 < (l.length : Int) := by omega
         have hg1 : l.getD (j + 1) 0 = l[j + 1] := by simp [List.getD, hj1]
         cases long
         case true =>
           clear h92 hg hg1
           have HN : Hid (scanQ l q true f = scanQ l q true (j + 2)) := Lib.hid (by rw [HE.out]; exact scanQ_esc hjl hcb hg9 (.inl rfl))
           clear HE HTQ SA HQM WF
           go_wp2_with (go_at_call 73; (with_reducible refine (HQC.out _).mono ?_); rintro e w3 ⟨rfl, hw⟩; rw [hw]; clear hw)
           go_roundw
           case rel => exact ⟨(j + 2), by go_num, by omega, by omega, HN, HX, HK, HB0⟩
           case measure => simp [intOf]; omega
         case false =>
           by_cases g10 : l[j + 1] = 10
           · have v10 : ((l[j + 1].toNat : Int) == 10) = true := by rw [g10]; rfl
             have HI : Hid (quoteG l i = .inr (j + 1, 100)) := Lib.hid (by rw [HTQ.out, HE.out]; rw [scanQ_esc_eol hj1 hcb hg9 (by rw [hg1, g10]; rfl)])
             clear HE HTQ SA HQM WF
             go_wp2_with (go_at_call 73; (with_reducible refine (HQC.out _).mono ?_); rintro e w3 ⟨rfl, hw⟩; rw [hw]; clear hw)
             exact tok_done (V := W1) rfl HK.out HB0.out rfl rfl (by rw [HI.out]; exact ⟨_, _, _, _, _, _, rfl⟩)
           have u10 : ((l[j + 1].toNat : Int) == 10) = false := byte_ne (d := 10) g10
           by_cases g13 : l[j + 1] = 13
           · have v13 : ((l[j + 1].toNat : Int) == 13) = true := by rw [g13]; rfl
             have v10 : ((l[j + 1].toNat : Int) == 10) = false := by rw [g13]; rfl
             have HI : Hid (quoteG l i = .inr (j + 1, 100)) := Lib.hid (by rw [HTQ.out, HE.out]; rw [scanQ_esc_eol hj1 hcb hg9 (by rw [hg1, g13]; rfl)])
             clear HE HTQ SA HQM WF
             go_wp2_with (go_at_call 73; (with_reducible refine (HQC.out _).mono ?_); rintro e w3 ⟨rfl, hw⟩; rw [hw]; clear hw)
             exact tok_done (V := W1) rfl HK.out HB0.out rfl rfl (by rw [HI.out]; exact ⟨_, _, _, _, _, _, rfl⟩)
           have u13 : ((l[j + 1].toNat : Int) == 13) = false := byte_ne (d := 13) g13
           have HN : Hid (scanQ l q false f = scanQ l q false (j + 2)) := Lib.hid (by rw [HE.out]; exact scanQ_esc hjl hcb hg9 (.inr (.inr (by rw [hg1]; unfold eolC; simp [g10, g13]))))
           clear HE HTQ SA HQM WF
           go_wp2_with (go_at_call 73; (with_reducible refine (HQC.out _).mono ?_); rintro e w3 ⟨rfl, hw⟩; rw [hw]; clear hw)
           go_roundw
           case rel => exact ⟨(j + 2), by go_num, by omega, by omega, HN, HX, HK, HB0⟩
           case measure => simp [intOf]; omega
       have n92 : ((l[j].toNat : Int) == 92) = false := byte_ne (d := 92) h92
       cases long
       case true =>
         have HN : Hid (scanQ l q true f = scanQ l q true (j + 1)) := Lib.hid (by rw [HE.out]; exact scanQ_go hjl hcb (by rw [hg]; exact h92) (.inl rfl))
         clear HE HTQ SA HQM WF
         go_wp2_with (go_at_call 73; (with_reducible refine (HQC.out _).mono ?_); rintro e w3 ⟨rfl, hw⟩; rw [hw]; clear hw)
         go_roundw
         case rel => exact ⟨(j + 1), by go_num, by omega, by omega, HN, HX, HK, HB0⟩
         case measure => simp [intOf]; omega
       case false =>
         by_cases g10 : l[j] = 10
         · have v10 : ((l[j].toNat : Int) == 10) = true := by rw [g10]; rfl
           have HI : Hid (quoteG l i = .inr (j, 100)) := Lib.hid (by rw [HTQ.out, HE.out]; rw [scanQ_eol hjl hcb (by rw [hg, g10]; rfl)])
           clear HE HTQ SA HQM WF
           go_wp2_with (go_at_call 73; (with_reducible refine (HQC.out _).mono ?_); rintro e w3 ⟨rfl, hw⟩; rw [hw]; clear hw)
           exact tok_done (V := W1) rfl HK.out HB0.out rfl rfl (by rw [HI.out]; exact ⟨_, _, _, _, _, _, rfl⟩)
         have u10 : ((l[j].toNat : Int) == 10) = false := byte_ne (d := 10) g10
         by_cases g13 : l[j] = 13
         · have v13 : ((l[j].toNat : Int) == 13) = true := by rw [g13]; rfl
           have v10 : ((l[j].toNat : Int) == 10) = false := by rw [g13]; rfl
           have HI : Hid (quoteG l i = .inr (j, 100)) := Lib.hid (by rw [HTQ.out, HE.out]; rw [scanQ_eol hjl hcb (by rw [hg, g13]; rfl)])
           clear HE HTQ SA HQM WF
           go_wp2_with (go_at_call 73; (with_reducible refine (HQC.out _).mono ?_); rintro e w3 ⟨rfl, hw⟩; rw [hw]; clear hw)
           exact tok_done (V := W1) rfl HK.out HB0.out rfl rfl (by rw [HI.out]; exact ⟨_, _, _, _, _, _, rfl⟩)
         have u13 : ((l[j].toNat : Int) == 13) = false := byte_ne (d := 13) g13
         have HN : Hid (scanQ l q false f = scanQ l q false (j + 1)) := Lib.hid (by rw [HE.out]; exact scanQ_go hjl hcb (by rw [hg]; exact h92) (.inr (by rw [hg]; unfold eolC; simp [g10, g13])))
         clear HE HTQ SA HQM WF
         go_wp2_with (go_at_call 73; (with_reducible refine (HQC.out _).mono ?_); rintro e w3 ⟨rfl, hw⟩; rw [hw]; clear hw)
         go_roundw
         case rel => exact ⟨(j + 1), by go_num, by omega, by omega, HN, HX, HK, HB0⟩
         case measure => simp [intOf]; omega
end Go.Proofs.YtdhmpakhdhdebaaGreatDoor
