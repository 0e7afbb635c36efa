/-
  lexis.Lexer.quoted: a contract. By an AI agent.
-/
import Derived.Test.YtdhmpakhdhdebaaGreatDoorZLexW12
namespace Go.Proofs.YtdhmpakhdhdebaaGreatDoor
open Go.Lib (hid)
open Go.RowKit
set_option maxRecDepth 100000
theorem three_i {l : List UInt8} {q : UInt8} {j : Nat} (h0 : j + 2 < l.length) : threeB l q j = (l[j] == q && (l[j + 1] == q && l[j + 2] == q)) := by
 unfold threeB
 rw [decide_eq_true h0, Bool.true_and]
 simp [List.getD, show j < l.length by omega, show j + 1 < l.length by omega, h0]
theorem three_no {l : List UInt8} {q : UInt8} {j : Nat} (h0 : ¬ j + 2 < l.length) : threeB l q j = false := by
 unfold threeB
 rw [decide_eq_false h0, Bool.false_and]
theorem beq_turn (a b : UInt8) : (a == b) = (b == a) := by
 by_cases h : a = b
 ·rw [h]
 ·rw [beq_eq_false_iff_ne.2 h, beq_eq_false_iff_ne.2 (fun e => h e.symm)]
theorem has_three (l : List UInt8) (j : Nat) (q : UInt8) : Lib.hasPrefix (List.drop j l) [q, q, q] = threeB l q j := by
 by_cases h : j + 2 < l.length
 ·rw [three_i h, List.drop_eq_getElem_cons (show j < l.length by omega), List.drop_eq_getElem_cons (show j + 1 < l.length by omega), List.drop_eq_getElem_cons (show j + 1 + 1 < l.length from h), beq_turn l[j], beq_turn l[j + 1], beq_turn l[j + 2]]
  show (q == l[j] && (q == l[j + 1] && (q == l[j + 1 + 1] && true))) = _
  rw [Bool.and_true]
 ·rw [three_no h]
  have hd : (List.drop j l).length <= 2 := by simp; omega
  rcases hl : List.drop j l with _ | ⟨a, _ | ⟨b, _ | ⟨c, t⟩⟩⟩
  ·rfl
  ·show (q == a && false) = false
   rw [Bool.and_false]
  ·show (q == a && (q == b && false)) = false
   rw [Bool.and_false, Bool.and_false]
  ·rw [hl] at hd; simp at hd
theorem threeB_in {l : List UInt8} {q : UInt8} {i : Nat} {long : Bool} (hi : i < l.length) (h : threeB l q i = long) : i + markN long <= l.length := by
 cases long
 ·exact hi
 ·by_cases h2 : i + 2 < l.length
  ·exact h2
  ·rw [three_no h2] at h; cases h
def markL (q : UInt8) (long : Bool) : List UInt8 := if long = true then [q, q, q] else [q]
theorem markL_len (q : UInt8) (long : Bool) : (markL q long).length = markN long := by cases long <;> rfl
theorem has_mark {l : List UInt8} {q : UInt8} {j : Nat} (long : Bool) (h : j < l.length) : Lib.hasPrefix (List.drop j l) (markL q long) = closeB l q long j := by
 cases long
 ·show Lib.hasPrefix (List.drop j l) [q] = (l.getD j 0 == q)
  rw [has_one]
  by_cases e : l.getD j 0 = q
  ·rw [e, decide_eq_true ⟨h, rfl⟩, beq_self_eq_true]
  ·rw [beq_eq_false_iff_ne.2 e, decide_eq_false (fun x => e x.2)]
 ·exact has_three l j q
set_option maxHeartbeats 12800000 in
theorem lexQuoted_l (l : List UInt8) (bad : Int) (i : Nat) (ev : Value) (b : Nat) (w : World) (h : LexAt w b l bad i ev) (hi : i < l.length) (hl : l.length <= 4194304) (_hq : l.getD i 0 = 34 \/ l.getD i 0 = 39) :
  Calls Tryz.prog 68 #[.pointer (some ⟨b, 0, none⟩)] w fun e w' => TokRet e i (quoteG l i) /\ Below w.heap.size w w' := by
 obtain ⟨q, hqe⟩ : ∃ q, l.getD i 0 = q := ⟨_, rfl⟩
 obtain ⟨long, hlo⟩ : ∃ long, threeB l q i = long := ⟨_, rfl⟩
 have HTB : Hid (threeB l (l.getD i 0) i = long /\ l.getD i 0 = q) := hid ⟨by rw [hqe]; exact hlo, hqe⟩
 have hmk : List.take (i + 1 - i) (List.drop i l) = [q] := by
  rw [Nat.add_sub_cancel_left, List.drop_eq_getElem_cons hi]
  show [l[i]] = [q]
  rw [<- hqe]
  simp [List.getD, hi]
 have hmk2 : List.take 1 (List.drop i l) = [q] := by rw [<- hmk, Nat.add_sub_cancel_left]
 have HQ3 : Hid (∀ u, Calls Tryz.prog 73 #[.string (B (List.drop i l)), .string (B [q, q, q])] u fun e w' => e = .returned (.bool long) /\ w' = u) := hid (fun u => by
  have := Tryz.strings_HasPrefix (B (List.drop i l)) (B [q, q, q]) u
  rw [show (B (List.drop i l)).data.toList = List.drop i l from B_toList _, show (B [q, q, q]).data.toList = [q, q, q] from B_toList _, has_three, hlo] at this
  exact this)
 have HQM : Hid (∀ (j : Nat), j < l.length -> ∀ u, Calls Tryz.prog 73 #[.string (B (List.drop j l)), .string (B (markL q long))] u fun e w' => e = .returned (.bool (closeB l q long j)) /\ w' = u) := hid (fun j hj u => by
  have := Tryz.strings_HasPrefix (B (List.drop j l)) (B (markL q long)) u
  rw [show (B (List.drop j l)).data.toList = List.drop j l from B_toList _, show (B (markL q long)).data.toList = markL q long from B_toList _, has_mark long hj] at this
  exact this)
 have SA := hid (fun (a : Nat) (s : List UInt8) (u : World) (ha : a <= 16777216) (hs : s.length <= 4194304) => lexSaid_l (some ⟨b, 0, none⟩) a s 1 u (by omega) ha)
 have tk : List.take (l.length - i) (List.drop i l) = List.drop i l := List.take_of_length_le (by simp)
 have W1 : IntKind.i64.wrap ((i : Int) + 1) = (i : Int) + 1 := IntWalk.i64_in _ (by omega)
 have m0 : (0 : Int) <= (i : Int) + 1 := by omega
 have m1 : (i : Int) <= (i : Int) + 1 := by omega
 have m2 : (i : Int) + 1 <= (l.length : Int) := by omega
 clear hqe hlo
 obtain ⟨W, hW⟩ : ∃ W, (w.alloc (.cells #[.int .i64 0, .string ⟨#[]⟩, .string ⟨#[]⟩, .string ⟨#[]⟩, .int .i64 0, .int .i64 0] 50)).alloc (.cells #[.int .i64 0, .int .i64 0] 111) = W := ⟨_, rfl⟩
 have HB0 : Hid (Below w.heap.size w W) := hid (by rw [<- hW]; exact ((Below.refl _ _).alloc (Nat.le_refl _) _).alloc (by simp) _)
 have HK : Hid (TkAt W w.heap.size) := hid (by rw [<- hW]; exact tkAt_of (tk_new w).1 (tk_new w).2)
 have HX := hid (h.below HB0.out)
 have hn0 : ¬ b = w.heap.size := by have := h.lt; omega
 have hn1 : ¬ b = w.heap.size + 1 := by have := h.lt; omega
 have k0 : (0 : Int) <= (i : Int) := by omega
 have k1 : (i : Int) <= (l.length : Int) := by omega
 obtain ⟨x0, x1, x2, x3, f0, f1, f2, f3⟩ := RowAt.four HX.out
 have hbl := HX.out.lt
 obtain ⟨a0, a1, a2, a3, a4, a5, p0, p1, p2, p3, p4, p5, d0, d1, e0, e1, hlt⟩ := HK.out
 have hlt0 := Nat.lt_of_succ_lt hlt
 go_enter Tryz.func68, Tryz.ntmps68
 go_wp2_with fail
 go_quiet (fail)
 go_wp2_with fail
 go_quiet ((go_at_call 73; exact quiet_same2 (HQ3.out _)))
 go_upto_if 41 with fail
 go_cut [4] from 42 to 42 (fun x4 wx => x4 = .string (B (markL q long)) /\ Hid (LexAt wx b l bad i ev) /\ Hid (TkAt wx w.heap.size) /\ Hid (Below w.heap.size w wx))
 case first =>
  cases long
  ·go_wp2_with fail
   go_meet
   exact ⟨rfl, HX, hid (by first | exact HK.out.drewN _ | exact (HK.out.drewN _).drewN _), hid (by first | exact below_drewN_h HB0.out _ | exact below_drewN_h (below_drewN_h HB0.out _) _)⟩
  ·go_wp2_with fail
   go_meet
   exact ⟨rfl, HX, hid (by first | exact HK.out.drewN _ | exact (HK.out.drewN _).drewN _), hid (by first | exact below_drewN_h HB0.out _ | exact below_drewN_h (below_drewN_h HB0.out _) _)⟩
 case rest =>
  obtain ⟨rfl, HX2, HK2, HB2⟩ := hcut
  obtain ⟨W0, hW0⟩ : ∃ W0 : World, W0 = wc := ⟨_, rfl⟩
  subst hW0
  clear HX HK HB0 x0 x1 x2 x3 f0 f1 f2 f3 hbl a0 a1 a2 a3 a4 a5 p0 p1 p2 p3 p4 p5 d0 d1 e0 e1 hlt hlt0
  have HX := HX2
  have HK := HK2
  have HB0 := HB2
  clear HX2 HK2 HB2
  obtain ⟨x0, x1, x2, x3, f0, f1, f2, f3⟩ := RowAt.four HX.out
  have hbl := HX.out.lt
  obtain ⟨a0, a1, a2, a3, a4, a5, p0, p1, p2, p3, p4, p5, d0, d1, e0, e1, hlt⟩ := HK.out
  have hlt0 := Nat.lt_of_succ_lt hlt
  obtain ⟨mk, hmkl⟩ : ∃ mk, markL q long = mk := ⟨_, rfl⟩
  have hml := markL_len q long
  rw [hmkl] at HQM hml ⊢
  have hmz := threeB_in hi HTB.out.1
  obtain ⟨f, hf⟩ : ∃ f, i + markN long = f := ⟨_, rfl⟩
  have hmf : (i : Int) + (mk.length : Int) = (f : Int) := by omega
  have WF : IntKind.i64.wrap ((i : Int) + (mk.length : Int)) = (f : Int) := by rw [hmf]; exact IntWalk.i64_in _ (by omega)
  have HF := hid hf
  have HM := hid hml
  have HTQ : Hid (quoteG l i = match scanQ l q long f with
   | .inr p => .inr (p, 100)
   | .inl e => match unescF 1 (cutF l f e) 0 with
    | .inl t => .inl ⟨4, t, [], [], (i : Nat), (e + markN long : Nat)⟩
    | .inr (p, n) => .inr (f + p, n)) := hid (by unfold quoteG; rw [HTB.out.2]; rw [HTB.out.2] at HTB; rw [HTB.out.1, hf]; rfl)
  have hif : i < f := by rw [<- hf]; cases long <;> simp [markN]
  have hfl : f <= l.length := by rw [<- hf]; exact hmz
  clear hmkl hml hf hmf HQ3 hmk hmk2 tk HTB W1 m0 m1 m2 hmz
  go_wp2_with fail
  go_loopw [8] (fun z wr => ∃ j : Nat, z = .int .i64 (j : Int) /\ f <= j /\ j <= l.length /\ Hid (scanQ l q long f = scanQ l q long j) /\ Hid (LexAt wr b l bad i ev) /\ Hid (TkAt wr w.heap.size) /\ Hid (Below w.heap.size w wr)) (fun z _ => l.length - (intOf z).toNat)
  case atStart => exact ⟨f, rfl, Nat.le_refl _, hfl, hid rfl, HX, HK, HB0⟩
  case round =>
   obtain ⟨j, rfl, hfj, hj, HE, HX2, HK2, HB2⟩ := hrel
   obtain ⟨W1, hW1⟩ : ∃ W1 : World, W1 = wr := ⟨_, rfl⟩
   subst hW1
   clear HX HK HB0 x0 x1 x2 x3 f0 f1 f2 f3 hbl a0 a1 a2 a3 a4 a5 p0 p1 p2 p3 p4 p5 d0 d1 e0 e1 hlt hlt0
   have HX := HX2
   have HK := HK2
   have HB0 := HB2
   clear HX2 HK2 HB2
   obtain ⟨x0, x1, x2, x3, f0, f1, f2, f3⟩ := RowAt.four HX.out
   have hbl := HX.out.lt
   obtain ⟨a0, a1, a2, a3, a4, a5, p0, p1, p2, p3, p4, p5, d0, d1, e0, e1, hlt⟩ := HK.out
   have hlt0 := Nat.lt_of_succ_lt hlt
   have hbW := HX.out.lt
   have hlW := HK.out.lt
   have j0 : (0 : Int) <= (j : Int) := by omega
   have j1 : (0 : Int) <= (j : Int) + 1 := by omega
   have WJ1 : IntKind.i64.wrap ((j : Int) + 1) = (j : Int) + 1 := IntWalk.i64_in _ (by omega)
   have WJ2 : IntKind.i64.wrap ((j : Int) + 1 + 1) = (j : Int) + 1 + 1 := IntWalk.i64_in _ (by omega)
   by_cases hjl : j < l.length
   case neg =>
    have c1 : decide ((j : Int) < (l.length : Int)) = false := decide_eq_false (by omega)
    have c2 : decide (j < l.length) = false := decide_eq_false hjl
    have HI : Hid (quoteG l i = .inr (l.length, 100)) := hid (by rw [HTQ.out, HE.out, scanQ_end (by omega)])
    clear HE SA HTQ HQM WF
    go_wp2_with fail
    go_region
    all_goals (go_wp2_with fail)
    all_goals exact tok_done_d (V := W1) rfl HK.out HB0.out rfl rfl (by rw [HI.out]; exact ⟨_, _, _, _, _, _, rfl⟩)
   have c1 : decide ((j : Int) < (l.length : Int)) = true := decide_eq_true (by omega)
   have c2 : decide (j < l.length) = true := decide_eq_true hjl
   have c3 : (j : Int) < (l.length : Int) := by omega
   have hg : l.getD j 0 = l[j] := by simp [List.getD, hjl]
   have tk : List.take (l.length - j) (List.drop j l) = List.drop j l := List.take_of_length_le (by simp)
   have HQC := hid (HQM.out j hjl)
   obtain ⟨cb, hcb⟩ : ∃ cb, closeB l q long j = cb := ⟨_, rfl⟩
   rw [hcb] at HQC
   cases cb
   case true =>
    have HS : Hid (scanQ l q long f = .inl j) := hid (by rw [HE.out, scanQ_hit hjl hcb])
    obtain ⟨s, hs⟩ : ∃ s, List.take (j - f) (List.drop f l) = s := ⟨_, rfl⟩
    have hsl : s.length <= 4194304 := by rw [<- hs]; simp; omega
    have SD := hid (fun (u : World) => SA.out f s u (by omega) hsl)
    have n0 : (0 : Int) <= (f : Int) := by omega
    have n1 : (f : Int) <= (j : Int) := by omega
    have n2 : (j : Int) <= (l.length : Int) := by omega
    obtain ⟨e, he⟩ : ∃ e, j + markN long = e := ⟨_, rfl⟩
    have hel : e <= l.length + 3 := by rw [<- he]; cases long <;> simp [markN] <;> omega
    have HEE := hid he
    have WE : IntKind.i64.wrap ((j : Int) + (mk.length : Int)) = (e : Int) := by rw [show (j : Int) + (mk.length : Int) = (e : Int) by have := HM.out; omega]; exact IntWalk.i64_in _ (by omega)
    have WG : IntKind.i64.wrap ((e : Int) - (i : Int)) = (e : Int) - (i : Int) := IntWalk.i64_in _ (by have := HM.out; omega)
    obtain ⟨y, hy⟩ : ∃ y, unescF 1 s 0 = y := ⟨_, rfl⟩
    rw [hy] at SD
    clear hcb hg SA HQM HE he
    rcases y with t | ⟨p, n⟩
    ·have HI : Hid (quoteG l i = .inl ⟨4, t, [], [], (i : Nat), (e : Nat)⟩) := hid (by rw [HTQ.out, HS.out]; simp only; rw [show cutF l f j = s from hs, hy]; simp only; rw [HEE.out])
     have SD2 : Hid (∀ u, Calls Tryz.prog 97 #[.pointer (some ⟨b, 0, none⟩), .int .i64 (f : Int), .string (B s), .int .i64 1] u fun e w' => e = .returned (.tuple #[.string (B t), .agg #[.int .i64 0, .int .i64 0]]) /\ Below u.heap.size u w') := SD
     clear SD HS hy HTQ
     have SD := SD2
     clear SD2
     go_upto_region 12 with (first | (go_at_call 73; (with_reducible refine (HQC.out _).mono ?_); rintro e w3 ⟨rfl, hw⟩; rw [hw]; clear hw) | (go_at_call 97; (with_reducible refine (SD.out _).mono ?_); rintro e w3 ⟨rfl, hb⟩; replace HX := hid (@LexAt.below _ _ b l bad i ev (by exact HX.out) hb); replace HK := hid (@TkAt.below _ _ _ (by exact TkAt.same HK.out) hb); replace HB0 := hid (below_same HB0.out hb); clear x0 x1 x2 x3 f0 f1 f2 f3 hbl a0 a1 a2 a3 a4 a5 p0 p1 p2 p3 p4 p5 d0 d1 e0 e1 hlt hlt0 hb; obtain ⟨x0, x1, x2, x3, f0, f1, f2, f3⟩ := RowAt.four HX.out; have hbl := HX.out.lt; obtain ⟨a0, a1, a2, a3, a4, a5, p0, p1, p2, p3, p4, p5, d0, d1, e0, e1, hlt⟩ := HK.out; have hlt0 := Nat.lt_of_succ_lt hlt))
     obtain ⟨V, hV⟩ : ∃ V, w3.alloc (.cells #[(.int .i64 0), (.int .i64 0)] 111) = V := ⟨_, rfl⟩; rw [hV]; have hbv : Below w3.heap.size w3 V := (by rw [<- hV]; exact (Below.refl _ _).alloc (Nat.le_refl _) _); have t8 := boxP_at (w := w3) (x := (.int .i64 0)) (y := (.int .i64 0)) (T := 111); rw [hV] at t8; obtain ⟨t0, t1⟩ := t8; have h81 : ¬ w3.heap.size = w.heap.size := (by omega); have h82 : ¬ w3.heap.size = w.heap.size + 1 := (by omega); replace HX := hid (HX.out.below hbv); replace HK := hid (HK.out.below hbv); replace HB0 := hid (HB0.out.trans (hbv.mono HB0.out.size)); clear hV hbv; clear x0 x1 x2 x3 f0 f1 f2 f3 hbl a0 a1 a2 a3 a4 a5 p0 p1 p2 p3 p4 p5 d0 d1 e0 e1 hlt hlt0; obtain ⟨x0, x1, x2, x3, f0, f1, f2, f3⟩ := RowAt.four HX.out; have hbl := HX.out.lt; obtain ⟨a0, a1, a2, a3, a4, a5, p0, p1, p2, p3, p4, p5, d0, d1, e0, e1, hlt⟩ := HK.out; have hlt0 := Nat.lt_of_succ_lt hlt
     go_region
     all_goals (go_wp2_with fail)
     all_goals exact tok_done_d (V := V) rfl HK.out HB0.out rfl rfl (by rw [HI.out]; exact tokRet_of (t := ⟨4, t, [], [], (i : Nat), (e : Nat)⟩) rfl rfl rfl rfl)
    ·have HI : Hid (quoteG l i = .inr (f + p, n)) := hid (by rw [HTQ.out, HS.out]; simp only; rw [show cutF l f j = s from hs, hy])
     have SD2 : Hid (∀ u, Calls Tryz.prog 97 #[.pointer (some ⟨b, 0, none⟩), .int .i64 (f : Int), .string (B s), .int .i64 1] u fun e w' => e = .returned (.tuple #[.string ⟨#[]⟩, .agg #[.int .i64 ((f : Int) + (p : Int)), .int .i64 n]]) /\ Below u.heap.size u w') := hid (fun u => by have h := SD.out u; simp only [saidV] at h; exact h)
     clear SD HS hy HTQ
     have SD := SD2
     clear SD2
     go_upto_region 12 with (first | (go_at_call 73; (with_reducible refine (HQC.out _).mono ?_); rintro e w3 ⟨rfl, hw⟩; rw [hw]; clear hw) | (go_at_call 97; (with_reducible refine (SD.out _).mono ?_); rintro e w3 ⟨rfl, hb⟩; replace HX := hid (@LexAt.below _ _ b l bad i ev (by exact HX.out) hb); replace HK := hid (@TkAt.below _ _ _ (by exact TkAt.same HK.out) hb); replace HB0 := hid (below_same HB0.out hb); clear x0 x1 x2 x3 f0 f1 f2 f3 hbl a0 a1 a2 a3 a4 a5 p0 p1 p2 p3 p4 p5 d0 d1 e0 e1 hlt hlt0 hb; obtain ⟨x0, x1, x2, x3, f0, f1, f2, f3⟩ := RowAt.four HX.out; have hbl := HX.out.lt; obtain ⟨a0, a1, a2, a3, a4, a5, p0, p1, p2, p3, p4, p5, d0, d1, e0, e1, hlt⟩ := HK.out; have hlt0 := Nat.lt_of_succ_lt hlt))
     obtain ⟨V, hV⟩ : ∃ V, w3.alloc (.cells #[(.int .i64 ((f : Int) + (p : Int))), (.int .i64 n)] 111) = V := ⟨_, rfl⟩; rw [hV]; have hbv : Below w3.heap.size w3 V := (by rw [<- hV]; exact (Below.refl _ _).alloc (Nat.le_refl _) _); have t8 := boxP_at (w := w3) (x := (.int .i64 ((f : Int) + (p : Int)))) (y := (.int .i64 n)) (T := 111); rw [hV] at t8; obtain ⟨t0, t1⟩ := t8; have h81 : ¬ w3.heap.size = w.heap.size := (by omega); have h82 : ¬ w3.heap.size = w.heap.size + 1 := (by omega); replace HX := hid (HX.out.below hbv); replace HK := hid (HK.out.below hbv); replace HB0 := hid (HB0.out.trans (hbv.mono HB0.out.size)); clear hV hbv; clear x0 x1 x2 x3 f0 f1 f2 f3 hbl a0 a1 a2 a3 a4 a5 p0 p1 p2 p3 p4 p5 d0 d1 e0 e1 hlt hlt0; obtain ⟨x0, x1, x2, x3, f0, f1, f2, f3⟩ := RowAt.four HX.out; have hbl := HX.out.lt; obtain ⟨a0, a1, a2, a3, a4, a5, p0, p1, p2, p3, p4, p5, d0, d1, e0, e1, hlt⟩ := HK.out; have hlt0 := Nat.lt_of_succ_lt hlt
     go_region
     all_goals (go_wp2_with fail)
     all_goals exact tok_done_d (V := V) rfl HK.out HB0.out rfl rfl (by rw [HI.out]; exact ⟨_, _, _, _, _, _, by rw [show (((f + p : Nat) : Nat) : Int) = (f : Int) + (p : Int) by omega]⟩)
   case false =>
    by_cases h92 : l[j] = 92
    ·have y92 : ((l[j].toNat : Int) == 92) = true := by rw [h92]; rfl
     have hg9 : l.getD j 0 = 92 := by rw [hg]; exact h92
     by_cases hj1 : j + 1 < l.length
     case neg =>
      have e1 : decide ((j : Int) + 1 < (l.length : Int)) = false := decide_eq_false (by omega)
      have e2 : decide (j + 1 < l.length) = false := decide_eq_false hj1
      have z10 : ((l[j].toNat : Int) == 10) = false := by rw [h92]; rfl
      have z13 : ((l[j].toNat : Int) == 13) = false := by rw [h92]; rfl
      clear h92 hg
      cases long
      ·
       have HN : Hid (scanQ l q false f = scanQ l q false (j + 1)) := hid (by rw [HE.out]; exact by rw [scanQ_esc hjl hcb hg9 (.inr (.inl (by omega))), scanQ_end (by omega), scanQ_end (by omega)])
       clear HE HTQ SA HQM WF
       go_wp2_with (go_at_call 73; (with_reducible refine (HQC.out _).mono ?_); rintro e w3 ⟨rfl, hw⟩; rw [hw]; clear hw)
       go_roundw
       case rel => exact ⟨(j + 1), by go_num, by omega, by omega, HN, HX, HK, HB0⟩
       case measure => simp [intOf]; omega
      ·
       have HN : Hid (scanQ l q true f = scanQ l q true (j + 1)) := hid (by rw [HE.out]; exact by rw [scanQ_esc hjl hcb hg9 (.inr (.inl (by omega))), scanQ_end (by omega), scanQ_end (by omega)])
       clear HE HTQ SA HQM WF
       go_wp2_with (go_at_call 73; (with_reducible refine (HQC.out _).mono ?_); rintro e w3 ⟨rfl, hw⟩; rw [hw]; clear hw)
       go_roundw
       case rel => exact ⟨(j + 1), by go_num, by omega, by omega, HN, HX, HK, HB0⟩
       case measure => simp [intOf]; omega
     have e1 : decide ((j : Int) + 1 < (l.length : Int)) = true := decide_eq_true (by omega)
     have e2 : decide (j + 1 < l.length) = true := decide_eq_true hj1
     have e3 : (j : Int) + 1 < (l.length : Int) := by omega
     have hg1 : l.getD (j + 1) 0 = l[j + 1] := by simp [List.getD, hj1]
     cases long
     case true =>
      clear h92 hg hg1
      have HN : Hid (scanQ l q true f = scanQ l q true (j + 2)) := hid (by rw [HE.out]; exact scanQ_esc hjl hcb hg9 (.inl rfl))
      clear HE HTQ SA HQM WF
      go_wp2_with (go_at_call 73; (with_reducible refine (HQC.out _).mono ?_); rintro e w3 ⟨rfl, hw⟩; rw [hw]; clear hw)
      go_roundw
      case rel => exact ⟨(j + 2), by go_num, by omega, by omega, HN, HX, HK, HB0⟩
      case measure => simp [intOf]; omega
     case false =>
      by_cases g10 : l[j + 1] = 10
      ·have v10 : ((l[j + 1].toNat : Int) == 10) = true := by rw [g10]; rfl
       have HI : Hid (quoteG l i = .inr (j + 1, 100)) := hid (by rw [HTQ.out, HE.out]; rw [scanQ_esc_eol hj1 hcb hg9 (by rw [hg1, g10]; rfl)])
       clear HE HTQ SA HQM WF
       go_wp2_with (go_at_call 73; (with_reducible refine (HQC.out _).mono ?_); rintro e w3 ⟨rfl, hw⟩; rw [hw]; clear hw)
       exact tok_done (V := W1) rfl HK.out HB0.out rfl rfl (by rw [HI.out]; exact ⟨_, _, _, _, _, _, rfl⟩)
      have u10 : ((l[j + 1].toNat : Int) == 10) = false := byte_ne (d := 10) g10
      by_cases g13 : l[j + 1] = 13
      ·have v13 : ((l[j + 1].toNat : Int) == 13) = true := by rw [g13]; rfl
       have v10 : ((l[j + 1].toNat : Int) == 10) = false := by rw [g13]; rfl
       have HI : Hid (quoteG l i = .inr (j + 1, 100)) := hid (by rw [HTQ.out, HE.out]; rw [scanQ_esc_eol hj1 hcb hg9 (by rw [hg1, g13]; rfl)])
       clear HE HTQ SA HQM WF
       go_wp2_with (go_at_call 73; (with_reducible refine (HQC.out _).mono ?_); rintro e w3 ⟨rfl, hw⟩; rw [hw]; clear hw)
       exact tok_done (V := W1) rfl HK.out HB0.out rfl rfl (by rw [HI.out]; exact ⟨_, _, _, _, _, _, rfl⟩)
      have u13 : ((l[j + 1].toNat : Int) == 13) = false := byte_ne (d := 13) g13
      have HN : Hid (scanQ l q false f = scanQ l q false (j + 2)) := hid (by rw [HE.out]; exact scanQ_esc hjl hcb hg9 (.inr (.inr (by rw [hg1]; unfold eolC; simp [g10, g13]))))
      clear HE HTQ SA HQM WF
      go_wp2_with (go_at_call 73; (with_reducible refine (HQC.out _).mono ?_); rintro e w3 ⟨rfl, hw⟩; rw [hw]; clear hw)
      go_roundw
      case rel => exact ⟨(j + 2), by go_num, by omega, by omega, HN, HX, HK, HB0⟩
      case measure => simp [intOf]; omega
    have n92 : ((l[j].toNat : Int) == 92) = false := byte_ne (d := 92) h92
    cases long
    case true =>
     have HN : Hid (scanQ l q true f = scanQ l q true (j + 1)) := hid (by rw [HE.out]; exact scanQ_go hjl hcb (by rw [hg]; exact h92) (.inl rfl))
     clear HE HTQ SA HQM WF
     go_wp2_with (go_at_call 73; (with_reducible refine (HQC.out _).mono ?_); rintro e w3 ⟨rfl, hw⟩; rw [hw]; clear hw)
     go_roundw
     case rel => exact ⟨(j + 1), by go_num, by omega, by omega, HN, HX, HK, HB0⟩
     case measure => simp [intOf]; omega
    case false =>
     by_cases g10 : l[j] = 10
     ·have v10 : ((l[j].toNat : Int) == 10) = true := by rw [g10]; rfl
      have HI : Hid (quoteG l i = .inr (j, 100)) := hid (by rw [HTQ.out, HE.out]; rw [scanQ_eol hjl hcb (by rw [hg, g10]; rfl)])
      clear HE HTQ SA HQM WF
      go_wp2_with (go_at_call 73; (with_reducible refine (HQC.out _).mono ?_); rintro e w3 ⟨rfl, hw⟩; rw [hw]; clear hw)
      exact tok_done (V := W1) rfl HK.out HB0.out rfl rfl (by rw [HI.out]; exact ⟨_, _, _, _, _, _, rfl⟩)
     have u10 : ((l[j].toNat : Int) == 10) = false := byte_ne (d := 10) g10
     by_cases g13 : l[j] = 13
     ·have v13 : ((l[j].toNat : Int) == 13) = true := by rw [g13]; rfl
      have v10 : ((l[j].toNat : Int) == 10) = false := by rw [g13]; rfl
      have HI : Hid (quoteG l i = .inr (j, 100)) := hid (by rw [HTQ.out, HE.out]; rw [scanQ_eol hjl hcb (by rw [hg, g13]; rfl)])
      clear HE HTQ SA HQM WF
      go_wp2_with (go_at_call 73; (with_reducible refine (HQC.out _).mono ?_); rintro e w3 ⟨rfl, hw⟩; rw [hw]; clear hw)
      exact tok_done (V := W1) rfl HK.out HB0.out rfl rfl (by rw [HI.out]; exact ⟨_, _, _, _, _, _, rfl⟩)
     have u13 : ((l[j].toNat : Int) == 13) = false := byte_ne (d := 13) g13
     have HN : Hid (scanQ l q false f = scanQ l q false (j + 1)) := hid (by rw [HE.out]; exact scanQ_go hjl hcb (by rw [hg]; exact h92) (.inr (by rw [hg]; unfold eolC; simp [g10, g13])))
     clear HE HTQ SA HQM WF
     go_wp2_with (go_at_call 73; (with_reducible refine (HQC.out _).mono ?_); rintro e w3 ⟨rfl, hw⟩; rw [hw]; clear hw)
     go_roundw
     case rel => exact ⟨(j + 1), by go_num, by omega, by omega, HN, HX, HK, HB0⟩
     case measure => simp [intOf]; omega
end Go.Proofs.YtdhmpakhdhdebaaGreatDoor
namespace Go.Proofs.YtdhmpakhdhdebaaGreatDoor
open Go.Lib (hid)
open Go.RowKit
set_option maxRecDepth 100000
theorem getD_drop (l : List UInt8) (i k : Nat) : (l.drop i).getD k 0 = l.getD (i + k) 0 := by
 simp [List.getD, List.getElem?_drop]
theorem digE_drop (l : List UInt8) (i : Nat) : ∀ (n k : Nat), l.length - (i + k) <= n -> digE l (i + k) = i + digE (l.drop i) k
 | n, k, hn => by
  by_cases h : l.length <= i + k
  ·rw [digE_end h, digE_end (by simp; omega)]
  ·have h2 : k < (l.drop i).length := by simp; omega
   cases hc : digC (l.getD (i + k) 0) with
   | false => rw [digE_stop (by omega) hc, digE_stop h2 (by rw [getD_drop]; exact hc)]
   | true =>
    rw [digE_go (by omega) hc, digE_go h2 (by rw [getD_drop]; exact hc)]
    match n, hn with
    | 0, hn => omega
    | n + 1, hn => exact digE_drop l i n (k + 1) (by omega)
theorem digE_dr (l : List UInt8) (i k : Nat) : digE l (i + k) = i + digE (l.drop i) k := digE_drop l i l.length k (by omega)
theorem numD_dr {l : List UInt8} {i : Nat} (h : i < l.length) : numD l i = i + numD (l.drop i) 0 := by
 have h2 : 0 < (l.drop i).length := by simp; omega
 have hg := getD_drop l i 0
 unfold numD
 rw [hg]
 by_cases hs : signC (l.getD i 0) = true
 ·rw [if_pos ⟨h, hs⟩, if_pos ⟨h2, hs⟩]
 ·rw [if_neg (fun x => hs x.2), if_neg (fun x => hs x.2)]; rfl
theorem expD_dr {l : List UInt8} {i k : Nat} (h : i <= l.length) : expD l (i + k) = i + expD (l.drop i) k := by
 have hg := getD_drop l i (k + 1)
 unfold expD
 rw [hg, <- Nat.add_assoc]
 by_cases hs : i + k + 1 < l.length /\ signC (l.getD (i + k + 1) 0) = true
 ·rw [if_pos hs, if_pos ⟨by simp; omega, hs.2⟩]; omega
 ·rw [if_neg hs, if_neg (fun x => hs ⟨by have := x.1; simp at this; omega, x.2⟩)]; omega
theorem powE_dr {l : List UInt8} {i k : Nat} (h : i <= l.length) : powE l (i + k) = i + powE (l.drop i) k := by
 have hg := getD_drop l i k
 have hd := digE_dr l i (expD (l.drop i) k)
 rw [<- expD_dr h] at hd
 unfold powE
 rw [hg]
 by_cases hs : l.length <= i + k \/ expC (l.getD (i + k) 0) = false
 ·rw [if_pos hs, if_pos (by rcases hs with h1 | h1; exact .inl (by simp; omega); exact .inr h1)]
 ·have hs2 : ¬ ((l.drop i).length <= k \/ expC (l.getD (i + k) 0) = false) := by
   rintro (h1 | h1)
   ·simp at h1; exact hs (.inl (by omega))
   ·exact hs (.inr h1)
  rw [if_neg hs, if_neg hs2]
  have he := expD_dr (k := k) h
  by_cases hz : digE (l.drop i) (expD (l.drop i) k) = expD (l.drop i) k
  ·rw [if_pos (by rw [hd, hz, he]), if_pos hz]
  ·rw [if_neg (by rw [hd, he]; omega), if_neg hz, hd]
def numE (r : List UInt8) : Nat × List UInt8 :=
 let f := numD r 0
 let a := digE r f
 let b := digE r (a + 1)
 let dot := decide (a < r.length) && r.getD a 0 == 46
 let man := if dot = true /\ a + 1 < b then b else if dot = true /\ f < a then a + 1 else a
 if man < powE r man /\ f < man then (powE r man, doubleN)
 else if a < powE r a /\ f < a then (powE r a, doubleN)
 else if dot = true /\ a + 1 < b then (b, decimalN)
 else (a, integerN)
theorem numP_dr {l : List UInt8} {i : Nat} (h : i < l.length) : numP l i = (i + (numP (l.drop i) 0).1, (numP (l.drop i) 0).2) := by
 have hf := numD_dr h
 unfold numP
 simp only
 rw [hf]
 generalize numD (l.drop i) 0 = f
 rw [digE_dr l i f]
 generalize digE (l.drop i) f = a
 have hb := digE_dr l i (a + 1)
 rw [<- Nat.add_assoc] at hb
 rw [hb]
 generalize digE (l.drop i) (a + 1) = b
 rw [getD_drop, show decide (a < (l.drop i).length) = decide (i + a < l.length) by apply decide_eq_decide.2; simp; omega]
 generalize (decide (i + a < l.length) && l.getD (i + a) 0 == 46) = dot
 have h1 : (if dot = true /\ i + a + 1 < i + b then i + b else if dot = true /\ i + f < i + a then i + a + 1 else i + a) = i + (if dot = true /\ a + 1 < b then b else if dot = true /\ f < a then a + 1 else a) := by
  by_cases c1 : dot = true /\ a + 1 < b
  ·rw [if_pos ⟨c1.1, by omega⟩, if_pos c1]
  ·rw [if_neg (fun x => c1 ⟨x.1, by omega⟩), if_neg c1]
   by_cases c2 : dot = true /\ f < a
   ·rw [if_pos ⟨c2.1, by omega⟩, if_pos c2]; omega
   ·rw [if_neg (fun x => c2 ⟨x.1, by omega⟩), if_neg c2]
 rw [h1]
 generalize (if dot = true /\ a + 1 < b then b else if dot = true /\ f < a then a + 1 else a) = m
 rw [powE_dr (Nat.le_of_lt h), powE_dr (Nat.le_of_lt h)]
 by_cases c1 : m < powE (l.drop i) m /\ f < m
 ·rw [if_pos ⟨by omega, by omega⟩, if_pos c1]
 ·rw [if_neg (fun x => c1 ⟨by omega, by omega⟩), if_neg c1]
  by_cases c2 : a < powE (l.drop i) a /\ f < a
  ·rw [if_pos ⟨by omega, by omega⟩, if_pos c2]
  ·rw [if_neg (fun x => c2 ⟨by omega, by omega⟩), if_neg c2]
   by_cases c3 : dot = true /\ a + 1 < b
   ·rw [if_pos ⟨c3.1, by omega⟩, if_pos c3]
   ·rw [if_neg (fun x => c3 ⟨x.1, by omega⟩), if_neg c3]
    by_cases c4 : f < a
    ·rw [if_pos (by omega), if_pos c4]
    ·rw [if_neg (by omega), if_neg c4]
theorem numTok_r {l r : List UInt8} {i : Nat} (h : i < l.length) (hr : List.drop i l = r) : numTok l i = if numD r 0 < (numE r).1 then .inl ⟨6, r.take (numE r).1, [], xsdW ++ (numE r).2, (i : Nat), (i + (numE r).1 : Nat)⟩ else if r.getD 0 0 = 46 then .inl ⟨8, [46], [], [], (i : Nat), (i + 1 : Nat)⟩ else .inr (i, 100) := by
 have hP := numP_dr h
 have hD := numD_dr h
 have hg := getD_drop l i 0
 rw [hr] at hP hD hg
 unfold numTok
 rw [hP, hD, hg]
 have hN : (numD r 0 < (numE r).1 -> numP r 0 = numE r) /\ (¬ numD r 0 < (numE r).1 -> ¬ numD r 0 < (numP r 0).1) := by
  unfold numE numP
  simp only
  have ha := digE_ge r (numD r 0)
  generalize numD r 0 = f at *
  generalize digE r f = a at *
  generalize digE r (a + 1) = b
  generalize (decide (a < r.length) && r.getD a 0 == 46) = dot
  generalize (if dot = true /\ a + 1 < b then b else if dot = true /\ f < a then a + 1 else a) = m
  by_cases c1 : m < powE r m /\ f < m
  ·rw [if_pos c1, if_pos c1]; exact ⟨fun _ => rfl, id⟩
  ·rw [if_neg c1, if_neg c1]
   by_cases c2 : a < powE r a /\ f < a
   ·rw [if_pos c2, if_pos c2]; exact ⟨fun _ => rfl, id⟩
   ·rw [if_neg c2, if_neg c2]
    by_cases c3 : dot = true /\ a + 1 < b
    ·rw [if_pos c3, if_pos c3]; exact ⟨fun _ => rfl, id⟩
    ·rw [if_neg c3, if_neg c3]
     by_cases c4 : f < a
     ·rw [if_pos c4]; exact ⟨fun _ => rfl, id⟩
     ·rw [if_neg c4]; exact ⟨fun x => absurd x c4, fun _ => Nat.lt_irrefl _⟩
 by_cases hlt : numD r 0 < (numE r).1
 ·rw [hN.1 hlt, if_pos hlt, if_pos (show i + numD r 0 < i + (numE r).1 by omega)]
  show Sum.inl (TokL.mk 6 (cutF l i (i + (numE r).1)) _ _ _ _) = _
  unfold cutF
  rw [Nat.add_sub_cancel_left, hr]
 ·rw [if_neg hlt, if_neg (show ¬ i + numD r 0 < i + (numP r 0).1 by have := hN.2 hlt; omega)]
  rfl
set_option maxHeartbeats 12800000 in
theorem lexNumber_l (l : List UInt8) (bad : Int) (i : Nat) (ev : Value) (b : Nat) (w : World) (h : LexAt w b l bad i ev) (hi : i < l.length) (hl : l.length <= 4194304) :
  Calls Tryz.prog 71 #[.pointer (some ⟨b, 0, none⟩)] w fun e w' => TokRet e i (numTok l i) /\ Below w.heap.size w w' := by
 obtain ⟨r, hr⟩ : ∃ r, List.drop i l = r := ⟨_, rfl⟩
 have hrl : r.length = l.length - i := by rw [<- hr]; simp
 have hr0 : 0 < r.length := by omega
 have tk : List.take (l.length - i) r = r := List.take_of_length_le (by omega)
 have HT := hid (numTok_r hi hr)
 have hg0 : r.getD 0 0 = r[0] := by simp [List.getD, hr0]
 have HL := hid hrl
 have hrb : r.length <= 4194304 := by omega
 have r0 : (0 : Int) < (r.length : Int) := by omega
 clear hrl
 obtain ⟨W, hW⟩ : ∃ W, (w.alloc (.cells #[.int .i64 0, .string ⟨#[]⟩, .string ⟨#[]⟩, .string ⟨#[]⟩, .int .i64 0, .int .i64 0] 50)).alloc (.cells #[.int .i64 0, .int .i64 0] 111) = W := ⟨_, rfl⟩
 have HB0 : Hid (Below w.heap.size w W) := hid (by rw [<- hW]; exact ((Below.refl _ _).alloc (Nat.le_refl _) _).alloc (by simp) _)
 have HK : Hid (TkAt W w.heap.size) := hid (by rw [<- hW]; exact tkAt_of (tk_new w).1 (tk_new w).2)
 have HX := hid (h.below HB0.out)
 have hn0 : ¬ b = w.heap.size := by have := h.lt; omega
 have hn1 : ¬ b = w.heap.size + 1 := by have := h.lt; omega
 have k0 : (0 : Int) <= (i : Int) := by omega
 have k1 : (i : Int) <= (l.length : Int) := by omega
 obtain ⟨x0, x1, x2, x3, f0, f1, f2, f3⟩ := RowAt.four HX.out
 have hbl := HX.out.lt
 obtain ⟨a0, a1, a2, a3, a4, a5, p0, p1, p2, p3, p4, p5, d0, d1, e0, e1, hlt⟩ := HK.out
 have hlt0 := Nat.lt_of_succ_lt hlt
 go_enter Tryz.func71, Tryz.ntmps71
 go_wp2_with fail
 go_quiet (fail)
 go_upto_region 3 with fail
 obtain ⟨f, hf⟩ : ∃ f, numD r 0 = f := ⟨_, rfl⟩
 have hfb : f <= 1 := by have := numD_gt r 0; omega
 go_cut [30] from 23 to 30 (fun x30 wx => x30 = .bool (signC r[0]) /\ Hid (LexAt wx b l bad i ev) /\ Hid (TkAt wx w.heap.size) /\ Hid (Below w.heap.size w wx))
 case first =>
  by_cases s1 : r[0] = 43
  ·have y1 : ((r[0].toNat : Int) == 43) = true := by rw [s1]; rfl
   have HS : Hid (signC r[0] = true) := hid (by rw [s1]; rfl)
   clear s1
   go_wp2_with fail
   go_meet
   exact ⟨by rw [HS.out], HX, hid (HK.out.drewN _), hid (below_drewN_h HB0.out _)⟩
  ·have y1 : ((r[0].toNat : Int) == 43) = false := byte_ne (d := 43) s1
   by_cases s2 : r[0] = 45
   ·have y2 : ((r[0].toNat : Int) == 45) = true := by rw [s2]; rfl
    have HS : Hid (signC r[0] = true) := hid (by rw [s2]; rfl)
    clear s2
    go_wp2_with fail
    go_meet
    exact ⟨by rw [HS.out], HX, hid (HK.out.drewN _), hid (below_drewN_h HB0.out _)⟩
   ·have y2 : ((r[0].toNat : Int) == 45) = false := byte_ne (d := 45) s2
    have HS : Hid (signC r[0] = false) := hid (by unfold signC; rw [beq_eq_false_iff_ne.2 s1, beq_eq_false_iff_ne.2 s2]; rfl)
    clear s1 s2
    go_wp2_with fail
    go_meet
    exact ⟨by rw [HS.out], HX, hid (HK.out.drewN _), hid (below_drewN_h HB0.out _)⟩
 case rest =>
  obtain ⟨rfl, HX2, HK2, HB2⟩ := hcut
  obtain ⟨W0, hW0⟩ : ∃ W0 : World, W0 = wc := ⟨_, rfl⟩
  subst hW0
  clear HX HK HB0 x0 x1 x2 x3 f0 f1 f2 f3 hbl a0 a1 a2 a3 a4 a5 p0 p1 p2 p3 p4 p5 d0 d1 e0 e1 hlt hlt0
  have HX := HX2
  have HK := HK2
  have HB0 := HB2
  clear HX2 HK2 HB2
  obtain ⟨x0, x1, x2, x3, f0, f1, f2, f3⟩ := RowAt.four HX.out
  have hbl := HX.out.lt
  obtain ⟨a0, a1, a2, a3, a4, a5, p0, p1, p2, p3, p4, p5, d0, d1, e0, e1, hlt⟩ := HK.out
  have hlt0 := Nat.lt_of_succ_lt hlt
  have hfs : f = if signC r[0] = true then 1 else 0 := by
   rw [<- hf]; unfold numD; rw [hg0]
   by_cases h : signC r[0] = true
   ·rw [if_pos ⟨hr0, h⟩, if_pos h]
   ·rw [if_neg (fun x => h x.2), if_neg h]
  go_upto_if 30 with fail
  go_cut [5] from 30 to 30 (fun x5 wx => x5 = .int .i64 (f : Int) /\ Hid (LexAt wx b l bad i ev) /\ Hid (TkAt wx w.heap.size) /\ Hid (Below w.heap.size w wx))
  case first =>
   cases hs : signC r[0]
   ·rw [hs] at hfs
    subst hfs
    go_wp2_with fail
    go_meet
    exact ⟨rfl, HX, HK, HB0⟩
   ·rw [hs] at hfs
    subst hfs
    go_wp2_with fail
    go_meet
    exact ⟨rfl, HX, HK, HB0⟩
  case rest =>
   obtain ⟨rfl, HX2, HK2, HB2⟩ := hcut
   obtain ⟨W0, hW0⟩ : ∃ W0 : World, W0 = wc := ⟨_, rfl⟩
   subst hW0
   clear HX HK HB0 x0 x1 x2 x3 f0 f1 f2 f3 hbl a0 a1 a2 a3 a4 a5 p0 p1 p2 p3 p4 p5 d0 d1 e0 e1 hlt hlt0
   have HX := HX2
   have HK := HK2
   have HB0 := HB2
   clear HX2 HK2 HB2
   obtain ⟨x0, x1, x2, x3, f0, f1, f2, f3⟩ := RowAt.four HX.out
   have hbl := HX.out.lt
   obtain ⟨a0, a1, a2, a3, a4, a5, p0, p1, p2, p3, p4, p5, d0, d1, e0, e1, hlt⟩ := HK.out
   have hlt0 := Nat.lt_of_succ_lt hlt
   clear hfs
   obtain ⟨a, ha⟩ : ∃ a, digE r f = a := ⟨_, rfl⟩
   have hfa : f <= a := by have := digE_ge r f; omega
   have hal : a <= r.length := by rw [<- ha]; exact digE_le (by omega)
   obtain ⟨n, hn⟩ : ∃ n, a - f = n := ⟨_, rfl⟩
   have WFN : IntKind.i64.wrap ((f : Int) + (n : Int)) = (a : Int) := by rw [show (f : Int) + (n : Int) = (a : Int) by omega]; exact IntWalk.i64_in _ (by have := HL.out; omega)
   have D1 : Hid (∀ u, Calls Tryz.prog 102 #[.string (B r), .int .i64 (f : Int)] u fun e w' => e = .returned (.int .i64 (n : Int)) /\ w' = u) := hid (fun u => by have := lexDigits_l r f u (by omega) (by have := HL.out; omega); rw [ha, hn] at this; exact this)
   have a0' : (0 : Int) <= (a : Int) := by omega
   go_upto_region 8 with (go_at_call 102; (with_reducible refine (D1.out _).mono ?_); rintro e w3 ⟨rfl, hw⟩; rw [hw]; clear hw)
   obtain ⟨dot, hdot⟩ : ∃ dot, (decide (a < r.length) && r.getD a 0 == 46) = dot := ⟨_, rfl⟩
   go_cut [47] from 38 to 47 (fun x47 wx => x47 = .bool dot /\ Hid (LexAt wx b l bad i ev) /\ Hid (TkAt wx w.heap.size) /\ Hid (Below w.heap.size w wx))
   case first =>
    by_cases h1 : a < r.length
    ·have c1 : decide ((a : Int) < (r.length : Int)) = true := decide_eq_true (by omega)
     have c2 : decide (a < r.length) = true := decide_eq_true h1
     have c3 : (a : Int) < (r.length : Int) := by omega
     have hga : r.getD a 0 = r[a] := by simp [List.getD, h1]
     by_cases h2 : r[a] = 46
     ·have y2 : ((r[a].toNat : Int) == 46) = true := by rw [h2]; rfl
      have HS : Hid (dot = true) := hid (by rw [<- hdot, hga, c2, h2]; rfl)
      clear h2
      go_wp2_with fail
      go_meet
      exact ⟨by rw [HS.out], HX, HK, HB0⟩
     ·have y2 : ((r[a].toNat : Int) == 46) = false := byte_ne (d := 46) h2
      have HS : Hid (dot = false) := hid (by rw [<- hdot, hga, c2, beq_eq_false_iff_ne.2 h2]; rfl)
      clear h2
      go_wp2_with fail
      go_meet
      exact ⟨by rw [HS.out], HX, HK, HB0⟩
    ·have c1 : decide ((a : Int) < (r.length : Int)) = false := decide_eq_false (by omega)
     have c2 : decide (a < r.length) = false := decide_eq_false h1
     have HS : Hid (dot = false) := hid (by rw [<- hdot, c2]; rfl)
     go_wp2_with fail
     go_meet
     exact ⟨by rw [HS.out], HX, HK, HB0⟩
   case rest =>
    obtain ⟨rfl, HX2, HK2, HB2⟩ := hcut
    obtain ⟨W0, hW0⟩ : ∃ W0 : World, W0 = wc := ⟨_, rfl⟩
    subst hW0
    clear HX HK HB0 x0 x1 x2 x3 f0 f1 f2 f3 hbl a0 a1 a2 a3 a4 a5 p0 p1 p2 p3 p4 p5 d0 d1 e0 e1 hlt hlt0
    have HX := HX2
    have HK := HK2
    have HB0 := HB2
    clear HX2 HK2 HB2
    obtain ⟨x0, x1, x2, x3, f0, f1, f2, f3⟩ := RowAt.four HX.out
    have hbl := HX.out.lt
    obtain ⟨a0, a1, a2, a3, a4, a5, p0, p1, p2, p3, p4, p5, d0, d1, e0, e1, hlt⟩ := HK.out
    have hlt0 := Nat.lt_of_succ_lt hlt
    have hda : dot = true -> a < r.length := fun h => by rw [<- hdot] at h; exact of_decide_eq_true (Bool.and_eq_true_iff.1 h).1
    obtain ⟨c, hc⟩ : ∃ c, digE r (a + 1) = c := ⟨_, rfl⟩
    have hac : a + 1 <= c := by rw [<- hc]; exact digE_ge r (a + 1)
    have hcl : dot = true -> c <= r.length := fun h => by rw [<- hc]; exact digE_le (hda h)
    obtain ⟨p, hp⟩ : ∃ p, c - (a + 1) = p := ⟨_, rfl⟩
    have D2 : Hid (dot = true -> ∀ u, Calls Tryz.prog 102 #[.string (B r), .int .i64 ((a : Int) + 1)] u fun e w' => e = .returned (.int .i64 (p : Int)) /\ w' = u) := hid (fun h u => by have := lexDigits_l r (a + 1) u (hda h) (by have := HL.out; omega); rw [hc, hp, show ((a + 1 : Nat) : Int) = (a : Int) + 1 by omega] at this; exact this)
    obtain ⟨M, hM⟩ : ∃ M, (if dot = true /\ a + 1 < c then c else if dot = true /\ f < a then a + 1 else a) = M := ⟨_, rfl⟩
    obtain ⟨E, hE⟩ : ∃ E, (if dot = true /\ a + 1 < c then c else a) = E := ⟨_, rfl⟩
    obtain ⟨T, hT⟩ : ∃ T, (if dot = true /\ a + 1 < c then decimalN else integerN) = T := ⟨_, rfl⟩
    have HNE : Hid (numE r = if M < powE r M /\ f < M then (powE r M, doubleN) else if a < powE r a /\ f < a then (powE r a, doubleN) else (E, T)) := hid (by
     unfold numE
     simp only
     rw [hf, ha, hc, hdot, hM, <- hE, <- hT]
     by_cases h : dot = true /\ a + 1 < c
     ·rw [if_pos h, if_pos h, if_pos h]
     ·rw [if_neg h, if_neg h, if_neg h])
    go_upto_if 47 with fail
    go_cut [7, 8, 9, 10] from 47 to 62 (fun x7 x8 x9 _x10 wx => x7 = .int .i64 (E : Int) /\ x8 = .string (B T) /\ x9 = .int .i64 (M : Int) /\ Hid (LexAt wx b l bad i ev) /\ Hid (TkAt wx w.heap.size) /\ Hid (Below w.heap.size w wx))
    case first =>
     clear HNE HT HL D1
     cases dot
     ·rw [if_neg (fun x => Bool.noConfusion x.1)] at hM hE hT
      rw [if_neg (fun x => Bool.noConfusion x.1)] at hM
      subst hM hE hT
      go_wp2_with fail
      go_meet
      exact ⟨rfl, rfl, rfl, HX, HK, HB0⟩
     ·have DC := hid (D2.out rfl)
      have hcl2 := hcl rfl
      have hda2 := hda rfl
      have WA : IntKind.i64.wrap ((a : Int) + 1) = (a : Int) + 1 := IntWalk.i64_in _ (by omega)
      have WB : IntKind.i64.wrap ((a : Int) + 1 + (p : Int)) = (c : Int) := by rw [show (a : Int) + 1 + (p : Int) = (c : Int) by omega]; exact IntWalk.i64_in _ (by omega)
      by_cases hp0 : 0 < p
      ·have v1 : decide ((0 : Int) < (p : Int)) = true := decide_eq_true (by omega)
       have v2 : decide (0 < p) = true := decide_eq_true hp0
       rw [if_pos ⟨rfl, by omega⟩] at hM hE hT
       subst hM hE hT
       clear D2 hc hdot
       go_wp2_with (go_at_call 102; (with_reducible refine (DC.out _).mono ?_); rintro e w3 ⟨rfl, hw⟩; rw [hw]; clear hw)
       go_meet
       exact ⟨rfl, rfl, rfl, HX, HK, HB0⟩
      ·have v1 : decide ((0 : Int) < (p : Int)) = false := decide_eq_false (by omega)
       have v2 : decide (0 < p) = false := decide_eq_false hp0
       rw [if_neg (fun x => by have := x.2; omega)] at hM hE hT
       by_cases hn0 : 0 < n
       ·have v3 : decide ((0 : Int) < (n : Int)) = true := decide_eq_true (by omega)
        have v4 : decide (0 < n) = true := decide_eq_true hn0
        rw [if_pos ⟨rfl, by omega⟩] at hM
        subst hM hE hT
        clear D2 hc hdot
        go_wp2_with (go_at_call 102; (with_reducible refine (DC.out _).mono ?_); rintro e w3 ⟨rfl, hw⟩; rw [hw]; clear hw)
        go_meet
        exact ⟨rfl, rfl, by first | rfl | go_num, HX, HK, HB0⟩
       ·have v3 : decide ((0 : Int) < (n : Int)) = false := decide_eq_false (by omega)
        have v4 : decide (0 < n) = false := decide_eq_false hn0
        rw [if_neg (fun x => by have := x.2; omega)] at hM
        subst hM hE hT
        clear D2 hc hdot
        go_wp2_with (go_at_call 102; (with_reducible refine (DC.out _).mono ?_); rintro e w3 ⟨rfl, hw⟩; rw [hw]; clear hw)
        go_meet
        exact ⟨rfl, rfl, rfl, HX, HK, HB0⟩
    case rest =>
     obtain ⟨rfl, rfl, rfl, HX2, HK2, HB2⟩ := hcut
     obtain ⟨W0, hW0⟩ : ∃ W0 : World, W0 = wc := ⟨_, rfl⟩
     subst hW0
     clear HX HK HB0 x0 x1 x2 x3 f0 f1 f2 f3 hbl a0 a1 a2 a3 a4 a5 p0 p1 p2 p3 p4 p5 d0 d1 e0 e1 hlt hlt0
     have HX := HX2
     have HK := HK2
     have HB0 := HB2
     clear HX2 HK2 HB2
     obtain ⟨x0, x1, x2, x3, f0, f1, f2, f3⟩ := RowAt.four HX.out
     have hbl := HX.out.lt
     obtain ⟨a0, a1, a2, a3, a4, a5, p0, p1, p2, p3, p4, p5, d0, d1, e0, e1, hlt⟩ := HK.out
     have hlt0 := Nat.lt_of_succ_lt hlt
     have hMl : M <= r.length := by rw [<- hM]; split; rename_i h; exact hcl h.1; split; rename_i h; exact hda h.1; exact hal
     have hEl : E <= r.length := by rw [<- hE]; split; rename_i h; exact hcl h.1; exact hal
     have hTl : T.length <= 7 := by rw [<- hT]; split <;> decide
     clear D2 hc hdot hcl hda hM hT D1
     obtain ⟨N, hN⟩ : ∃ N, numE r = N := ⟨_, rfl⟩
     rw [hN] at HNE HT
     obtain ⟨n1, hn1⟩ : ∃ n1, powE r M - M = n1 := ⟨_, rfl⟩
     obtain ⟨n2, hn2⟩ : ∃ n2, powE r a - a = n2 := ⟨_, rfl⟩
     have hp1 := powE_bound r M
     have hp2 := powE_bound r a
     have P1 : Hid (∀ u, Calls Tryz.prog 103 #[.string (B r), .int .i64 (M : Int)] u fun e w' => e = .returned (.int .i64 (n1 : Int)) /\ w' = u) := hid (fun u => by have := lexExp_l r M u hMl (by omega); rw [hn1] at this; exact this)
     have P2 : Hid (∀ u, Calls Tryz.prog 103 #[.string (B r), .int .i64 (a : Int)] u fun e w' => e = .returned (.int .i64 (n2 : Int)) /\ w' = u) := hid (fun u => by have := lexExp_l r a u hal (by omega); rw [hn2] at this; exact this)
     have X1 : IntKind.i64.wrap ((M : Int) + (n1 : Int)) = ((powE r M : Nat) : Int) := by rw [show (M : Int) + (n1 : Int) = ((powE r M : Nat) : Int) by omega]; exact IntWalk.i64_in _ (by have := hp1.2 hMl; omega)
     have X2 : IntKind.i64.wrap ((a : Int) + (n2 : Int)) = ((powE r a : Nat) : Int) := by rw [show (a : Int) + (n2 : Int) = ((powE r a : Nat) : Int) by omega]; exact IntWalk.i64_in _ (by have := hp2.2 hal; omega)
     have Q1 : Hid (0 < n1 /\ f < M -> N = (powE r M, doubleN)) := hid (fun h => by rw [HNE.out, if_pos ⟨by omega, h.2⟩])
     have Q2 : Hid (¬ (0 < n1 /\ f < M) -> 0 < n2 /\ f < a -> N = (powE r a, doubleN)) := hid (fun h1 h => by rw [HNE.out, if_neg (fun x => h1 ⟨by omega, x.2⟩), if_pos ⟨by omega, h.2⟩])
     have Q3 : Hid (¬ (0 < n1 /\ f < M) -> ¬ (0 < n2 /\ f < a) -> N = (E, T)) := hid (fun h1 h2 => by rw [HNE.out, if_neg (fun x => h1 ⟨by omega, x.2⟩), if_neg (fun x => h2 ⟨by omega, x.2⟩)])
     have HNl : Hid (N.2.length <= 7) := hid (by
      rw [HNE.out]
      split
      ·show doubleN.length <= 7; decide
      ·split
       ·show doubleN.length <= 7; decide
       ·exact hTl)
     clear hTl
     have HNb : Hid (N.1 <= r.length) := hid (by
      rw [HNE.out]
      split
      ·exact hp1.2 hMl
      ·split
       ·exact hp2.2 hal
       ·exact hEl)
     clear HNE hN hn1 hn2 hp1 hp2 hE
     go_upto_block 0 with fail
     obtain ⟨V, hV⟩ : ∃ V, W0.alloc (.cells #[.int .i64 (M : Int), .int .i64 (a : Int)] 3) = V := ⟨_, rfl⟩
     have hbv : Below W0.heap.size W0 V := by rw [<- hV]; exact (Below.refl _ _).alloc (Nat.le_refl _) _
     have t8 := boxP_at (w := W0) (x := .int .i64 (M : Int)) (y := .int .i64 (a : Int)) (T := 3)
     rw [hV] at t8
     obtain ⟨t0, t1⟩ := t8
     rw [hV]
     replace HX := hid (HX.out.below hbv)
     replace HK := hid (HK.out.below hbv)
     replace HB0 := hid (HB0.out.trans (hbv.mono HB0.out.size))
     clear hV hbv x0 x1 x2 x3 f0 f1 f2 f3 hbl a0 a1 a2 a3 a4 a5 p0 p1 p2 p3 p4 p5 d0 d1 e0 e1 hlt hlt0
     obtain ⟨x0, x1, x2, x3, f0, f1, f2, f3⟩ := RowAt.four HX.out
     have hbl := HX.out.lt
     obtain ⟨a0, a1, a2, a3, a4, a5, p0, p1, p2, p3, p4, p5, d0, d1, e0, e1, hlt⟩ := HK.out
     have hlt0 := Nat.lt_of_succ_lt hlt
     go_cut [7, 8, 12, 13] from 69 to 86 (fun x7 x8 _x12 _x13 wx => x7 = .int .i64 ((N.1 : Nat) : Int) /\ x8 = .string (B N.2) /\ Hid (LexAt wx b l bad i ev) /\ Hid (TkAt wx w.heap.size) /\ Hid (Below w.heap.size w wx))
     case first =>
      go_wp2_with fail
      go_loopw [69, 7, 8] (fun z y7 y8 wr => ((z = .int .i64 0) \/ (z = .int .i64 1 /\ Hid (¬ (0 < n1 /\ f < M))) \/ (z = .int .i64 2 /\ Hid (¬ (0 < n1 /\ f < M) /\ ¬ (0 < n2 /\ f < a)))) /\ y7 = .int .i64 (E : Int) /\ y8 = .string (B T) /\ wr = V) (fun z _ _ _ => 2 - (intOf z).toNat)
      case atStart => exact ⟨.inl rfl, rfl, rfl, rfl⟩
      case round =>
       obtain ⟨hz, rfl, rfl, rfl⟩ := hrel
       clear HT HL
       rcases hz with rfl | ⟨rfl, HN⟩ | ⟨rfl, HN⟩
       ·by_cases h1 : 0 < n1
        ·have v1 : decide ((0 : Int) < (n1 : Int)) = true := decide_eq_true (by omega)
         have v2 : decide (0 < n1) = true := decide_eq_true h1
         by_cases h2 : f < M
         ·have v3 : decide ((f : Int) < (M : Int)) = true := decide_eq_true (by omega)
          have v4 : decide (f < M) = true := decide_eq_true h2
          have HE := hid (Q1.out ⟨h1, h2⟩)
          clear Q1 Q2 Q3
          go_wp2_with (go_at_call 103; (with_reducible refine (P1.out _).mono ?_); rintro e w3 ⟨rfl, hw⟩; rw [hw]; clear hw)
          go_meet
          exact ⟨by rw [HE.out], by rw [HE.out]; rfl, HX, HK, HB0⟩
         ·have v3 : decide ((f : Int) < (M : Int)) = false := decide_eq_false (by omega)
          have v4 : decide (f < M) = false := decide_eq_false h2
          have h : ¬ (0 < n1 /\ f < M) := fun x => h2 x.2
          have HN2 : Hid (¬ (0 < n1 /\ f < M)) := hid h
          clear Q1 Q2 Q3 h
          go_wp2_with (go_at_call 103; (with_reducible refine (P1.out _).mono ?_); rintro e w3 ⟨rfl, hw⟩; rw [hw]; clear hw)
          go_roundw
          case rel => exact ⟨.inr (.inl ⟨rfl, HN2⟩), rfl, rfl, by first | rfl | trivial⟩
          case measure => simp [intOf]
        ·have v1 : decide ((0 : Int) < (n1 : Int)) = false := decide_eq_false (by omega)
         have v2 : decide (0 < n1) = false := decide_eq_false h1
         have h : ¬ (0 < n1 /\ f < M) := fun x => h1 x.1
         have HN2 : Hid (¬ (0 < n1 /\ f < M)) := hid h
         clear Q1 Q2 Q3 h
         go_wp2_with (go_at_call 103; (with_reducible refine (P1.out _).mono ?_); rintro e w3 ⟨rfl, hw⟩; rw [hw]; clear hw)
         go_roundw
         case rel => exact ⟨.inr (.inl ⟨rfl, HN2⟩), rfl, rfl, by first | rfl | trivial⟩
         case measure => simp [intOf]
       ·by_cases h1 : 0 < n2
        ·have v1 : decide ((0 : Int) < (n2 : Int)) = true := decide_eq_true (by omega)
         have v2 : decide (0 < n2) = true := decide_eq_true h1
         by_cases h2 : f < a
         ·have v3 : decide ((f : Int) < (a : Int)) = true := decide_eq_true (by omega)
          have v4 : decide (f < a) = true := decide_eq_true h2
          have HE := hid (Q2.out HN.out ⟨h1, h2⟩)
          clear Q1 Q2 Q3
          go_wp2_with (go_at_call 103; (with_reducible refine (P2.out _).mono ?_); rintro e w3 ⟨rfl, hw⟩; rw [hw]; clear hw)
          go_meet
          exact ⟨by rw [HE.out], by rw [HE.out]; rfl, HX, HK, HB0⟩
         ·have v3 : decide ((f : Int) < (a : Int)) = false := decide_eq_false (by omega)
          have v4 : decide (f < a) = false := decide_eq_false h2
          have h : ¬ (0 < n2 /\ f < a) := fun x => h2 x.2
          have HN2 : Hid (¬ (0 < n1 /\ f < M) /\ ¬ (0 < n2 /\ f < a)) := hid ⟨HN.out, h⟩
          clear Q1 Q2 Q3 h
          go_wp2_with (go_at_call 103; (with_reducible refine (P2.out _).mono ?_); rintro e w3 ⟨rfl, hw⟩; rw [hw]; clear hw)
          go_roundw
          case rel => exact ⟨.inr (.inr ⟨rfl, HN2⟩), rfl, rfl, by first | rfl | trivial⟩
          case measure => simp [intOf]
        ·have v1 : decide ((0 : Int) < (n2 : Int)) = false := decide_eq_false (by omega)
         have v2 : decide (0 < n2) = false := decide_eq_false h1
         have h : ¬ (0 < n2 /\ f < a) := fun x => h1 x.1
         have HN2 : Hid (¬ (0 < n1 /\ f < M) /\ ¬ (0 < n2 /\ f < a)) := hid ⟨HN.out, h⟩
         clear Q1 Q2 Q3 h
         go_wp2_with (go_at_call 103; (with_reducible refine (P2.out _).mono ?_); rintro e w3 ⟨rfl, hw⟩; rw [hw]; clear hw)
         go_roundw
         case rel => exact ⟨.inr (.inr ⟨rfl, HN2⟩), rfl, rfl, by first | rfl | trivial⟩
         case measure => simp [intOf]
       ·have HE := hid (Q3.out HN.out.1 HN.out.2)
        clear Q1 Q2 Q3 P1 P2
        go_wp2_with fail
        go_meet
        exact ⟨by rw [HE.out], by rw [HE.out], HX, HK, HB0⟩
     case rest =>
      obtain ⟨rfl, rfl, HX2, HK2, HB2⟩ := hcut
      obtain ⟨W0, hW0⟩ : ∃ W0 : World, W0 = wc := ⟨_, rfl⟩
      subst hW0
      clear HX HK HB0 x0 x1 x2 x3 f0 f1 f2 f3 hbl a0 a1 a2 a3 a4 a5 p0 p1 p2 p3 p4 p5 d0 d1 e0 e1 hlt hlt0
      have HX := HX2
      have HK := HK2
      have HB0 := HB2
      clear HX2 HK2 HB2
      obtain ⟨x0, x1, x2, x3, f0, f1, f2, f3⟩ := RowAt.four HX.out
      have hbl := HX.out.lt
      obtain ⟨a0, a1, a2, a3, a4, a5, p0, p1, p2, p3, p4, p5, d0, d1, e0, e1, hlt⟩ := HK.out
      have hlt0 := Nat.lt_of_succ_lt hlt
      have HFE : Hid (f = numD r 0) := hid hf.symm
      clear Q1 Q2 Q3 P1 P2 X1 X2 hf
      by_cases hfe : f < N.1
      ·have v1 : decide ((f : Int) < ((N.1 : Nat) : Int)) = true := decide_eq_true (by omega)
       have v2 : decide (f < N.1) = true := decide_eq_true hfe
       have HI : Hid (numTok l i = .inl ⟨6, r.take N.1, [], xsdW ++ N.2, (i : Nat), (i + N.1 : Nat)⟩) := hid (by rw [HT.out, if_pos (by rw [<- HFE.out]; exact hfe)])
       have z0 : (0 : Int) <= ((N.1 : Nat) : Int) := by omega
       have z1 : ((N.1 : Nat) : Int) <= (r.length : Int) := by have := HNb.out; omega
       have hnl := HNl.out
       have e9 : (⟨#[104, 116, 116, 112, 58, 47, 47, 119, 119, 119, 46, 119, 51, 46, 111, 114, 103, 47, 50, 48, 48, 49, 47, 88, 77, 76, 83, 99, 104, 101, 109, 97, 35]⟩ : ByteArray) ++ B N.2 = B (xsdW ++ N.2) := B_append xsdW N.2
       clear HT
       go_wp2_with fail
       exact tok_done rfl HK.out HB0.out rfl rfl (by rw [HI.out]; exact tokRet_of (t := ⟨6, r.take N.1, [], xsdW ++ N.2, (i : Nat), (i + N.1 : Nat)⟩) rfl rfl rfl (by simp only; omega))
      ·have v1 : decide ((f : Int) < ((N.1 : Nat) : Int)) = false := decide_eq_false (by omega)
       have v2 : decide (f < N.1) = false := decide_eq_false hfe
       by_cases h46 : r[0] = 46
       ·have y6 : ((r[0].toNat : Int) == 46) = true := by rw [h46]; rfl
        have HI : Hid (numTok l i = .inl ⟨8, [46], [], [], (i : Nat), (i + 1 : Nat)⟩) := hid (by rw [HT.out, if_neg (by rw [<- HFE.out]; exact hfe), if_pos (by rw [hg0]; exact h46)])
        clear HT h46
        go_wp2_with fail
        exact tok_done rfl HK.out HB0.out rfl rfl (by rw [HI.out]; exact tokRet_of (t := ⟨8, [46], [], [], (i : Nat), (i + 1 : Nat)⟩) rfl rfl rfl (by simp only; omega))
       ·have y6 : ((r[0].toNat : Int) == 46) = false := byte_ne (d := 46) h46
        have HI : Hid (numTok l i = .inr (i, 100)) := hid (by rw [HT.out, if_neg (by rw [<- HFE.out]; exact hfe), if_neg (by rw [hg0]; exact h46)])
        clear HT h46
        go_wp2_with fail
        go_region
        all_goals (go_wp2_with fail)
        all_goals exact tok_done_d (V := W0) rfl HK.out HB0.out rfl rfl (by rw [HI.out]; exact ⟨_, _, _, _, _, _, rfl⟩)
end Go.Proofs.YtdhmpakhdhdebaaGreatDoor
