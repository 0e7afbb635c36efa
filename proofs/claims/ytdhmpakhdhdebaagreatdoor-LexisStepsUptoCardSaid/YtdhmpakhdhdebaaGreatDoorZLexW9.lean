/-
  lexis.letter; lexis.Lexer: said, tagged: contracts. By an AI agent.
-/
import Derived.Test.YtdhmpakhdhdebaaGreatDoorZLexW7
import Derived.Test.YtdhmpakhdhdebaaGreatDoorZRefNx1
import Derived.Test.YtdhmpakhdhdebaaGreatDoorZTagCells
import Derived.Test.YtdhmpakhdhdebaaGreatDoorZLabel
import Derived.Deep.Cut
namespace Go.Proofs.YtdhmpakhdhdebaaGreatDoor
open Go.RowKit
set_option maxRecDepth 100000
theorem lexLetter_l (c : UInt8) (w : World) : Calls Tryz.prog 99 #[.int .u8 (c.toNat : Int)] w fun e w' => e = .returned (.bool (alphaC c)) /\ w' = w := by
 have hc : ∀ b, alphaC c = b -> Hid (alphaC c = b) := fun b h => Lib.hid h
 by_cases h1 : 97 <= c.toNat
 · have d1 : decide ((97 : Int) <= (c.toNat : Int)) = true := decide_eq_true (by omega)
   by_cases h2 : c.toNat <= 122
   · have d2 : decide ((c.toNat : Int) <= 122) = true := decide_eq_true (by omega)
     have H := hc true (by unfold alphaC; simp; omega)
     clear hc
     go_enter Tryz.func99, Tryz.ntmps99
     go_wp2
     go_ret
     exact ⟨by rw [H.out]; rfl, rfl⟩
   · have d2 : decide ((c.toNat : Int) <= 122) = false := decide_eq_false (by omega)
     have d3 : decide ((65 : Int) <= (c.toNat : Int)) = true := decide_eq_true (by omega)
     have d4 : decide ((c.toNat : Int) <= 90) = false := decide_eq_false (by omega)
     have H := hc false (by unfold alphaC; simp; omega)
     clear hc
     go_enter Tryz.func99, Tryz.ntmps99
     go_wp2
     go_ret
     exact ⟨by rw [H.out]; rfl, rfl⟩
 · have d1 : decide ((97 : Int) <= (c.toNat : Int)) = false := decide_eq_false (by omega)
   by_cases h3 : 65 <= c.toNat
   · have d3 : decide ((65 : Int) <= (c.toNat : Int)) = true := decide_eq_true (by omega)
     by_cases h4 : c.toNat <= 90
     · have d4 : decide ((c.toNat : Int) <= 90) = true := decide_eq_true (by omega)
       have H := hc true (by unfold alphaC; simp; omega)
       clear hc
       go_enter Tryz.func99, Tryz.ntmps99
       go_wp2
       go_ret
       exact ⟨by rw [H.out]; rfl, rfl⟩
     · have d4 : decide ((c.toNat : Int) <= 90) = false := decide_eq_false (by omega)
       have H := hc false (by unfold alphaC; simp; omega)
       clear hc
       go_enter Tryz.func99, Tryz.ntmps99
       go_wp2
       go_ret
       exact ⟨by rw [H.out]; rfl, rfl⟩
   · have d3 : decide ((65 : Int) <= (c.toNat : Int)) = false := decide_eq_false (by omega)
     have H := hc false (by unfold alphaC; simp; omega)
     clear hc
     go_enter Tryz.func99, Tryz.ntmps99
     go_wp2
     go_ret
     exact ⟨by rw [H.out]; rfl, rfl⟩
theorem TkAt.same {W U : World} {g : Nat} (h : TkAt W g) (hc : ∀ a, U.cell? a = W.cell? a := by exact fun _ => rfl) (hf : ∀ a, U.frozen? a = W.frozen? a := by exact fun _ => rfl) (hs : U.heap.size = W.heap.size := by rfl) : TkAt U g :=
 ⟨(hc _).trans h.a0, (hc _).trans h.a1, (hc _).trans h.a2, (hc _).trans h.a3, (hc _).trans h.a4, (hc _).trans h.a5, (hf _).trans h.f0, (hf _).trans h.f1, (hf _).trans h.f2, (hf _).trans h.f3, (hf _).trans h.f4, (hf _).trans h.f5, (hc _).trans h.d0, (hc _).trans h.d1, (hf _).trans h.e0, (hf _).trans h.e1, hs ▸ h.lt⟩
theorem below_same {a W U u : World} (h : Below a.heap.size a W) (hb : Below U.heap.size U u) (ho : U.os = W.os := by rfl) (ht : U.tape = W.tape := by rfl) (hp : U.output = W.output := by rfl) (hh : U.heap = W.heap := by rfl) : Below a.heap.size a u := by
 have h2 : Below a.heap.size a U := ⟨ho.trans h.os, ht.trans h.tape, hp.trans h.output, by rw [hh]; exact h.size, fun k hk => by rw [hh]; exact h.block k hk⟩
 exact h2.trans (hb.mono h2.size)
def saidV (a : Nat) : List UInt8 ⊕ (Nat × Int) -> Value
 | .inl t => .tuple #[.string (B t), .agg #[.int .i64 0, .int .i64 0]]
 | .inr (p, n) => .tuple #[.string ⟨#[]⟩, .agg #[.int .i64 ((a : Int) + (p : Int)), .int .i64 n]]
theorem assertNB (u : World) : (Instr.typeAssert .nilIface 37 91 true).run Tryz.prog u = .ok (.tuple #[.pointer none, .bool false]) u := by kernel_rfl
set_option maxHeartbeats 1600000 in
theorem lexSaid_l (b : Option Addr) (a : Nat) (s : List UInt8) (way : Int) (w : World) (hs : s.length <= 16777216) (ha : a <= 16777216) :
   Calls Tryz.prog 97 #[.pointer b, .int .i64 (a : Int), .string (B s), .int .i64 way] w fun e w' => e = .returned (saidV a (unescF way s 0)) /\ Below w.heap.size w w' := by
 obtain ⟨W, hW⟩ : ∃ W, w.alloc (.cells #[.int .i64 0, .int .i64 0] 111) = W := ⟨_, rfl⟩
 have HB0 : Hid (Below w.heap.size w W) := Lib.hid (by rw [<- hW]; exact (Below.refl _ _).alloc (Nat.le_refl _) _)
 have HK : Hid (RowAt W w.heap.size [.int .i64 0, .int .i64 0]) := Lib.hid (by rw [<- hW]; exact rowAt_of_heap (heap_alloc_new w _))
 have hz : w.heap.size < W.heap.size := World.block_lt_of_cell? _ _ (HK.out.cell (j := 0) (by simp))
 obtain ⟨y, hy⟩ : ∃ y, unescF way s 0 = y := ⟨_, rfl⟩
 rcases y with t | ⟨p, n⟩
 · have UN := Lib.hid (fun (u : World) => unescape_ok hy hs u)
   have TA := fun u => assertNB u
   rw [hy]
   clear hy
   go_enter Tryz.func97, Tryz.ntmps97
   go_wp2_with (go_at_call 142; (with_reducible refine (UN.out _).mono ?_); rintro e w2 ⟨rfl, hb⟩; have HB := Lib.hid (HB0.out.trans (hb.mono HB0.out.size)); have HR := Lib.hid (RowAt.below HK.out hb hz); have c0 := HR.out.cell (j := 0) (by simp); have c1 := HR.out.cell (j := 1) (by simp); have g0 := HR.out.free (j := 0) (by simp); have g1 := HR.out.free (j := 1) (by simp); have hb2 := Nat.lt_of_lt_of_le hz hb.size; clear hb)
   refine bodyPost_ret (v := saidV a (.inl t)) (by simp [results, Tryz.results97, go_sem, c0, c1, saidV]) rfl ?_
   exact ⟨rfl, (HB.out.setCell (p := ⟨w.heap.size, 0, none⟩) (Nat.le_refl _) _).setCell (p := ⟨w.heap.size, 1, none⟩) (Nat.le_refl _) _⟩
 · have UN := Lib.hid (fun (u : World) => unescape_bad hy hs u)
   have TE := fun u => assertE n u
   have hpb := (unesc_at way s s.length 0 p n (by omega) hy).1
   have WA : IntKind.i64.wrap ((a : Int) + (p : Int)) = (a : Int) + (p : Int) := IntWalk.i64_in _ (by omega)
   rw [hy]
   clear hy
   go_enter Tryz.func97, Tryz.ntmps97
   go_wp2_with (go_at_call 142; (with_reducible refine (UN.out _).mono ?_); rintro e w2 ⟨g, rfl, hE, hb⟩; have HB := Lib.hid (HB0.out.trans (hb.mono HB0.out.size)); have HR := Lib.hid (RowAt.below HK.out hb hz); have c0 := HR.out.cell (j := 0) (by simp); have c1 := HR.out.cell (j := 1) (by simp); have g0 := HR.out.free (j := 0) (by simp); have g1 := HR.out.free (j := 1) (by simp); have hb2 := Nat.lt_of_lt_of_le hz hb.size; obtain ⟨g', hgg, q1, q2⟩ := hE; cases hgg; have hgl := World.block_lt_of_cell? _ _ q1; have TB := fun u => assertBB (some ⟨g, 0, none⟩) u; clear hb)
   go_region
   all_goals (go_wp2_with fail)
   all_goals (refine bodyPost_ret (v := saidV a (.inr (p, n))) (by simp [results, Tryz.results97, go_sem, c0, c1, saidV]) rfl ?_)
   all_goals exact ⟨rfl, ((below_drewN_h HB.out 1).setCell (p := ⟨w.heap.size, 0, none⟩) (Nat.le_refl _) _).setCell (p := ⟨w.heap.size, 1, none⟩) (Nat.le_refl _) _⟩
end Go.Proofs.YtdhmpakhdhdebaaGreatDoor
namespace Go.Proofs.YtdhmpakhdhdebaaGreatDoor
open Go.RowKit
set_option maxRecDepth 100000
theorem lexTag_bad {s : List UInt8} (h : tagF s = none) (w : World) (hM : MaxAt w) (hs : s.length <= 4194304) : Calls Tryz.prog 100 #[.string (B s)] w fun e w' => e = .returned (.tuple #[.agg #[.string ⟨#[]⟩, .string ⟨#[]⟩, .string ⟨#[]⟩, .string ⟨#[]⟩, .slice none 0 0, .slice none 0 0, .string ⟨#[]⟩], .int .i64 61]) /\ Below w.heap.size w w' :=
 (tag_l s w hM hs).mono fun e w' hp => by
   rw [h] at hp
   exact hp
theorem lexTag_ok {s : List UInt8} {t : TagL} (h : tagF s = some t) (w : World) (hM : MaxAt w) (hs : s.length <= 4194304) : Calls Tryz.prog 100 #[.string (B s)] w fun e w' => (∃ x1 x2 x3 x4 x5 y5 z5 x6 y6 z6 x7, e = .returned (.tuple #[.agg #[.string x1, .string x2, .string x3, .string x4, .slice x5 y5 z5, .slice x6 y6 z6, .string x7], .int .i64 0])) /\ Below w.heap.size w w' :=
 (tag_l s w hM hs).mono fun e w' hp => by
   rw [h] at hp
   obtain ⟨a1, a2, c1, c2, he, hb, _⟩ := hp
   exact ⟨⟨_, _, _, _, _, _, _, _, _, _, _, he⟩, hb⟩
set_option maxHeartbeats 6400000 in
theorem lexTagged_l (l : List UInt8) (bad : Int) (i : Nat) (ev : Value) (b : Nat) (w : World) (h : LexAt w b l bad i ev) (hi : i < l.length) (hl : l.length <= 4194304) (hM : MaxAt w) :
   Calls Tryz.prog 69 #[.pointer (some ⟨b, 0, none⟩)] w fun e w' => TokRet e i (atG l i) /\ Below w.heap.size w w' := by
 have WF : IntKind.i64.wrap ((i : Int) + 1) = (i : Int) + 1 := IntWalk.i64_in _ (by omega)
 have MX := Lib.hid (fun (u : World) (hb : Below w.heap.size w u) => hM.below hb)
 have LT := Lib.hid lexLetter_l
 have DG := Lib.hid lexDigit_l
 obtain ⟨m, hm⟩ : ∃ m, tagE l (i + 1) = m := ⟨_, rfl⟩
 have hmb := tagE_bound l l.length (i + 1) (by omega) (by omega)
 rw [hm] at hmb
 have HM := Lib.hid hm
 clear hM hm
 obtain ⟨W, hW⟩ : ∃ W, (w.alloc (.cells #[.int .i64 0, .string ⟨#[]⟩, .string ⟨#[]⟩, .string ⟨#[]⟩, .int .i64 0, .int .i64 0] 50)).alloc (.cells #[.int .i64 0, .int .i64 0] 111) = W := ⟨_, rfl⟩
 have HB0 : Hid (Below w.heap.size w W) := Lib.hid (by rw [<- hW]; exact ((Below.refl _ _).alloc (Nat.le_refl _) _).alloc (by simp) _)
 have HK : Hid (TkAt W w.heap.size) := Lib.hid (by rw [<- hW]; exact tkAt_of (tk_new w).1 (tk_new w).2)
 have HX := Lib.hid (h.below HB0.out)
 have hn0 : ¬ b = w.heap.size := by have := h.lt; omega
 have hn1 : ¬ b = w.heap.size + 1 := by have := h.lt; omega
 have k0 : (0 : Int) <= (i : Int) := by omega
 have k1 : (i : Int) <= (l.length : Int) := by omega
 obtain ⟨x0, x1, x2, x3, f0, f1, f2, f3⟩ := RowAt.four HX.out
 have hbl := HX.out.lt
 obtain ⟨a0, a1, a2, a3, a4, a5, p0, p1, p2, p3, p4, p5, d0, d1, e0, e1, hlt⟩ := HK.out
 have hlt0 := Nat.lt_of_succ_lt hlt
 go_enter Tryz.func69, Tryz.ntmps69
 go_upto_block 0 with fail
 go_cut [5] from 15 (fun x5 wx => x5 = .int .i64 (m : Int) /\ wx = W)
 case first =>
   go_wp2_with fail
   go_loopw [5] (fun z wr => ∃ j : Nat, z = .int .i64 (j : Int) /\ i + 1 <= j /\ j <= l.length /\ Hid (tagE l j = m) /\ wr = W) (fun z _ => l.length - (intOf z).toNat)
   case atStart => exact ⟨i + 1, by go_num, by omega, by omega, HM, rfl⟩
   case round =>
     obtain ⟨j, rfl, hij, hj, HE, rfl⟩ := hrel
     have j0 : (0 : Int) <= (j : Int) := by omega
     have WJ : IntKind.i64.wrap ((j : Int) + 1) = (j : Int) + 1 := IntWalk.i64_in _ (by omega)
     by_cases hlt2 : j < l.length
     · have c1 : decide ((j : Int) < (l.length : Int)) = true := decide_eq_true (by omega)
       have c2 : decide (j < l.length) = true := decide_eq_true hlt2
       have c3 : (j : Int) < (l.length : Int) := by omega
       have hg : l.getD j 0 = l[j] := by simp [List.getD, hlt2]
       have L1 := Lib.hid (LT.out l[j])
       have D1 := Lib.hid (DG.out l[j])
       have hq : tagC l[j] = (alphaC l[j] || (digC l[j] || l[j] == 45)) := by unfold tagC; rw [Bool.or_assoc]
       have HS : Hid (∀ q, tagC l[j] = q -> tagE l j = if q = true then tagE l (j + 1) else j) := Lib.hid (fun q h => by
         cases q with
         | true => rw [tagE_more hlt2 h]; rfl
         | false => rw [tagE_here hlt2 h]; rfl)
       obtain ⟨qa, ha⟩ : ∃ q, alphaC l[j] = q := ⟨_, rfl⟩
       obtain ⟨qd, hd⟩ : ∃ q, digC l[j] = q := ⟨_, rfl⟩
       rw [ha] at L1 hq
       rw [hd] at D1 hq
       have q45 : ((l[j].toNat : Int) == 45) = (l[j] == 45) := by
         by_cases h : l[j] = 45
         · rw [h]; rfl
         · rw [beq_eq_false_iff_ne.2 h]; exact byte_ne (d := 45) h
       obtain ⟨q5, h5⟩ : ∃ q, (l[j] == 45) = q := ⟨_, rfl⟩
       rw [h5] at q45 hq
       have HT := Lib.hid (HS.out _ hq)
       clear HS hq ha hd h5 hg
       have hcase : ((qa || (qd || q5)) = true /\ Hid (tagE l (j + 1) = m)) \/ ((qa || (qd || q5)) = false /\ Hid (j = m)) := by
         cases hh : (qa || (qd || q5)) with
         | true => exact .inl ⟨rfl, Lib.hid (by have := HT.out; rw [hh] at this; rw [<- HE.out, this]; rfl)⟩
         | false => exact .inr ⟨rfl, Lib.hid (by have := HT.out; rw [hh] at this; rw [<- HE.out, this]; rfl)⟩
       clear HT HE
       rcases hcase with ⟨hh, HN⟩ | ⟨hh, HN⟩
       · cases qa <;> cases qd <;> cases q5
         all_goals first
           | (exfalso; revert hh; decide)
           | (clear hh; go_wp2_with (first | (go_at_call 99; (with_reducible refine (L1.out _).mono ?_); rintro e w1 ⟨rfl, hw⟩; rw [hw]; clear hw) | (go_at_call 70; (with_reducible refine (D1.out _).mono ?_); rintro e w1 ⟨rfl, hw⟩; rw [hw]; clear hw)); go_roundw; (case rel => exact ⟨j + 1, by go_num, by omega, by omega, HN, by first | rfl | trivial⟩); (case measure => simp [intOf]; omega))
       · cases qa <;> cases qd <;> cases q5
         all_goals first
           | (exfalso; revert hh; decide)
           | (clear hh; go_wp2_with (first | (go_at_call 99; (with_reducible refine (L1.out _).mono ?_); rintro e w1 ⟨rfl, hw⟩; rw [hw]; clear hw) | (go_at_call 70; (with_reducible refine (D1.out _).mono ?_); rintro e w1 ⟨rfl, hw⟩; rw [hw]; clear hw)); go_meet; exact ⟨by rw [HN.out], by first | rfl | trivial⟩)
     · have c1 : decide ((j : Int) < (l.length : Int)) = false := decide_eq_false (by omega)
       have c2 : decide (j < l.length) = false := decide_eq_false hlt2
       have HN : Hid (j = m) := Lib.hid (by rw [<- HE.out, tagE_end (by omega)])
       clear HE
       go_wp2_with fail
       go_meet
       exact ⟨by rw [HN.out], rfl⟩
 case rest =>
   obtain ⟨rfl, rfl⟩ := hcut
   obtain ⟨run, hrun⟩ : ∃ run, cutF l (i + 1) m = run := ⟨_, rfl⟩
   have hcut2 : List.take (m - (i + 1)) (List.drop (i + 1) l) = run := hrun
   have hrl : run.length <= 4194304 := by rw [<- hrun]; have := cutF_len l (i + 1) m; omega
   have HA : Hid (atG l i = if run = prefixW \/ run = baseW then .inl ⟨7, 64 :: run, [], [], (i : Nat), (m : Nat)⟩ else match tagF run with
     | none => .inr (i + 1, 61)
     | some _ => .inl ⟨5, lowL run, [], [], (i : Nat), (m : Nat)⟩) := Lib.hid (by unfold atG; rw [HM.out, hrun]; rfl)
   have m0 : (0 : Int) <= (i : Int) + 1 := by omega
   have m1 : (i : Int) + 1 <= (m : Int) := by omega
   have m2 : (m : Int) <= (l.length : Int) := by omega
   have WM : IntKind.i64.wrap ((m : Int) - (i : Int)) = (m : Int) - (i : Int) := IntWalk.i64_in _ (by omega)
   clear hrun
   by_cases h1 : run = prefixW
   · go_wp2_with fail
     exact tok_done rfl HK.out HB0.out rfl rfl (by rw [HA.out, if_pos (.inl h1)]; exact tokRet_of (t := ⟨7, 64 :: run, [], [], (i : Nat), (m : Nat)⟩) (by rw [h1]; exact B_append [64] prefixW) rfl rfl rfl)
   have s1 : (run == [112, 114, 101, 102, 105, 120]) = false := beq_eq_false_iff_ne.2 h1
   by_cases h2 : run = baseW
   · have s2 : run = [98, 97, 115, 101] := h2
     have HA2 : Hid (atG l i = .inl ⟨7, 64 :: run, [], [], (i : Nat), (m : Nat)⟩) := Lib.hid (by rw [HA.out, if_pos (.inr h2)])
     have HRU := Lib.hid h2
     clear h1 h2 HA
     go_wp2_with fail
     exact tok_done (V := wc) rfl HK.out HB0.out rfl rfl (by rw [HA2.out]; exact tokRet_of (t := ⟨7, 64 :: run, [], [], (i : Nat), (m : Nat)⟩) (by rw [HRU.out]; rfl) rfl rfl rfl)
   have s2 : (run == [98, 97, 115, 101]) = false := beq_eq_false_iff_ne.2 h2
   have HA2 : Hid (atG l i = match tagF run with
     | none => .inr (i + 1, 61)
     | some _ => .inl ⟨5, lowL run, [], [], (i : Nat), (m : Nat)⟩) := Lib.hid (by rw [HA.out, if_neg (by rintro (h | h); exact h1 h; exact h2 h)])
   clear HA h1 h2
   obtain ⟨y, hy⟩ : ∃ y, tagF run = y := ⟨_, rfl⟩
   rw [hy] at HA2
   rcases y with _ | tg
   · have TG := Lib.hid (fun (u : World) (hb : Below w.heap.size w u) => lexTag_bad hy u (MX.out u hb) (by omega))
     clear hy
     go_wp2_with (go_at_call 100; (with_reducible refine (TG.out _ HB0.out).mono ?_); rintro e w2 ⟨rfl, hb⟩; replace HX := Lib.hid (@LexAt.below _ _ b l bad i ev (by exact HX.out) hb); replace HK := Lib.hid (@TkAt.below _ _ _ (by exact TkAt.same HK.out) hb); replace HB0 := Lib.hid (below_same HB0.out hb); clear x0 x1 x2 x3 f0 f1 f2 f3 hbl a0 a1 a2 a3 a4 a5 p0 p1 p2 p3 p4 p5 d0 d1 e0 e1 hlt hlt0 hb; obtain ⟨x0, x1, x2, x3, f0, f1, f2, f3⟩ := RowAt.four HX.out; have hbl := HX.out.lt; obtain ⟨a0, a1, a2, a3, a4, a5, p0, p1, p2, p3, p4, p5, d0, d1, e0, e1, hlt⟩ := HK.out; have hlt0 := Nat.lt_of_succ_lt hlt)
     exact tok_done_a (V := w2) rfl HK.out HB0.out rfl rfl (by rw [HA2.out]; exact ⟨_, _, _, _, _, _, rfl⟩)
   · have TG := Lib.hid (fun (u : World) (hb : Below w.heap.size w u) => lexTag_ok hy u (MX.out u hb) (by omega))
     have LW := Lib.hid (fun (u : World) => lower_l run u (by unfold maxLen; omega))
     clear hy
     go_upto_region 11 with (go_at_call 100; (with_reducible refine (TG.out _ HB0.out).mono ?_); rintro e w2 ⟨⟨v1, v2, v3, v4, v5, r5, z5, v6, r6, z6, v7, rfl⟩, hb⟩; replace HX := Lib.hid (@LexAt.below _ _ b l bad i ev (by exact HX.out) hb); replace HK := Lib.hid (@TkAt.below _ _ _ (by exact TkAt.same HK.out) hb); replace HB0 := Lib.hid (below_same HB0.out hb); clear x0 x1 x2 x3 f0 f1 f2 f3 hbl a0 a1 a2 a3 a4 a5 p0 p1 p2 p3 p4 p5 d0 d1 e0 e1 hlt hlt0 hb; obtain ⟨x0, x1, x2, x3, f0, f1, f2, f3⟩ := RowAt.four HX.out; have hbl := HX.out.lt; obtain ⟨a0, a1, a2, a3, a4, a5, p0, p1, p2, p3, p4, p5, d0, d1, e0, e1, hlt⟩ := HK.out; have hlt0 := Nat.lt_of_succ_lt hlt)
     have hb : Below w2.heap.size w2 (w2.alloc (.cells #[.string v1, .string v2, .string v3, .string v4, .slice v5 r5 z5, .slice v6 r6 z6, .string v7] 192)) := (Below.refl _ _).alloc (Nat.le_refl _) _
     replace HX := Lib.hid (@LexAt.below _ _ b l bad i ev (by exact HX.out) hb); replace HK := Lib.hid (@TkAt.below _ _ _ (by exact TkAt.same HK.out) hb); replace HB0 := Lib.hid (below_same HB0.out hb); clear x0 x1 x2 x3 f0 f1 f2 f3 hbl a0 a1 a2 a3 a4 a5 p0 p1 p2 p3 p4 p5 d0 d1 e0 e1 hlt hlt0 hb; obtain ⟨x0, x1, x2, x3, f0, f1, f2, f3⟩ := RowAt.four HX.out; have hbl := HX.out.lt; obtain ⟨a0, a1, a2, a3, a4, a5, p0, p1, p2, p3, p4, p5, d0, d1, e0, e1, hlt⟩ := HK.out; have hlt0 := Nat.lt_of_succ_lt hlt
     generalize hV : w2.alloc (.cells #[.string v1, .string v2, .string v3, .string v4, .slice v5 r5 z5, .slice v6 r6 z6, .string v7] 192) = V at *
     clear hV
     go_region_with (go_at_call 101; (with_reducible refine (LW.out _).mono ?_); rintro e w3 ⟨rfl, hb⟩; replace HX := Lib.hid (@LexAt.below _ _ b l bad i ev (by exact HX.out) hb); replace HK := Lib.hid (@TkAt.below _ _ _ (by exact TkAt.same HK.out) hb); replace HB0 := Lib.hid (below_same HB0.out hb); clear x0 x1 x2 x3 f0 f1 f2 f3 hbl a0 a1 a2 a3 a4 a5 p0 p1 p2 p3 p4 p5 d0 d1 e0 e1 hlt hlt0 hb; obtain ⟨x0, x1, x2, x3, f0, f1, f2, f3⟩ := RowAt.four HX.out; have hbl := HX.out.lt; obtain ⟨a0, a1, a2, a3, a4, a5, p0, p1, p2, p3, p4, p5, d0, d1, e0, e1, hlt⟩ := HK.out; have hlt0 := Nat.lt_of_succ_lt hlt)
     all_goals (go_wp2_with fail)
     all_goals exact tok_done rfl HK.out HB0.out rfl rfl (by rw [HA2.out]; exact tokRet_of (t := ⟨5, lowL run, [], [], (i : Nat), (m : Nat)⟩) rfl rfl rfl rfl)
end Go.Proofs.YtdhmpakhdhdebaaGreatDoor
