/-
  lexis.letter; lexis.Lexer: said, tagged: contracts. By an AI agent.
-/
import Derived.Test.YtdhmpakhdhdebaaGreatDoorZLexW7
namespace Go.Proofs.YtdhmpakhdhdebaaGreatDoor
open Go.Lib (hid)
open Go.RowKit
set_option maxRecDepth 100000
theorem lexLetter_l (c : UInt8) (w : World) : Calls Tryz.prog 99 #[.int .u8 (c.toNat : Int)] w fun e w' => e = .returned (.bool (alphaC c)) /\ w' = w := by
 have hc : ∀ b, alphaC c = b -> Hid (alphaC c = b) := fun b h => hid h
 by_cases h1 : 97 <= c.toNat
 ·have d1 : decide ((97 : Int) <= (c.toNat : Int)) = true := decide_eq_true (by omega)
  by_cases h2 : c.toNat <= 122
  ·have d2 : decide ((c.toNat : Int) <= 122) = true := decide_eq_true (by omega)
   have H := hc true (by unfold alphaC; simp; omega)
   clear hc
   go_enter Tryz.func99, Tryz.ntmps99
   go_wp2
   go_ret
   exact ⟨by rw [H.out]; rfl, rfl⟩
  ·have d2 : decide ((c.toNat : Int) <= 122) = false := decide_eq_false (by omega)
   have d3 : decide ((65 : Int) <= (c.toNat : Int)) = true := decide_eq_true (by omega)
   have d4 : decide ((c.toNat : Int) <= 90) = false := decide_eq_false (by omega)
   have H := hc false (by unfold alphaC; simp; omega)
   clear hc
   go_enter Tryz.func99, Tryz.ntmps99
   go_wp2
   go_ret
   exact ⟨by rw [H.out]; rfl, rfl⟩
 ·have d1 : decide ((97 : Int) <= (c.toNat : Int)) = false := decide_eq_false (by omega)
  by_cases h3 : 65 <= c.toNat
  ·have d3 : decide ((65 : Int) <= (c.toNat : Int)) = true := decide_eq_true (by omega)
   by_cases h4 : c.toNat <= 90
   ·have d4 : decide ((c.toNat : Int) <= 90) = true := decide_eq_true (by omega)
    have H := hc true (by unfold alphaC; simp; omega)
    clear hc
    go_enter Tryz.func99, Tryz.ntmps99
    go_wp2
    go_ret
    exact ⟨by rw [H.out]; rfl, rfl⟩
   ·have d4 : decide ((c.toNat : Int) <= 90) = false := decide_eq_false (by omega)
    have H := hc false (by unfold alphaC; simp; omega)
    clear hc
    go_enter Tryz.func99, Tryz.ntmps99
    go_wp2
    go_ret
    exact ⟨by rw [H.out]; rfl, rfl⟩
  ·have d3 : decide ((65 : Int) <= (c.toNat : Int)) = false := decide_eq_false (by omega)
   have H := hc false (by unfold alphaC; simp; omega)
   clear hc
   go_enter Tryz.func99, Tryz.ntmps99
   go_wp2
   go_ret
   exact ⟨by rw [H.out]; rfl, rfl⟩
theorem TkAt.same {W U : World} {g : Nat} (h : TkAt W g) (hc : ∀ a, U.cell? a = W.cell? a := by exact fun _ => rfl) (hf : ∀ a, U.frozen? a = W.frozen? a := by exact fun _ => rfl) (hs : U.heap.size = W.heap.size := by rfl) : TkAt U g :=
 ⟨(hc _).trans h.a0, (hc _).trans h.a1, (hc _).trans h.a2, (hc _).trans h.a3, (hc _).trans h.a4, (hc _).trans h.a5, (hf _).trans h.f0, (hf _).trans h.f1, (hf _).trans h.f2, (hf _).trans h.f3, (hf _).trans h.f4, (hf _).trans h.f5, (hc _).trans h.d0, (hc _).trans h.d1, (hf _).trans h.e0, (hf _).trans h.e1, hs ▸ h.lt⟩
theorem below_same {a W U u : World} (h : Below a.heap.size a W) (hb : Below U.heap.size U u) (ho : U.os = W.os := by rfl) (ht : U.tape = W.tape := by rfl) (hp : U.output = W.output := by rfl) (hh : U.heap = W.heap := by rfl) : Below a.heap.size a u := by
 have h2 : Below a.heap.size a U := ⟨ho.trans h.os, ht.trans h.tape, hp.trans h.output, by rw [hh]; exact h.size, fun k hk => by rw [hh]; exact h.block k hk⟩
 exact h2.trans (hb.mono h2.size)
def saidV (a : Nat) : List UInt8 ⊕ (Nat × Int) -> Value
 | .inl t => .tuple #[.string (B t), .agg #[.int .i64 0, .int .i64 0]]
 | .inr (p, n) => .tuple #[.string ⟨#[]⟩, .agg #[.int .i64 ((a : Int) + (p : Int)), .int .i64 n]]
theorem assertNB (u : World) : (Instr.typeAssert .nilIface 37 91 true).run Tryz.prog u = .ok (.tuple #[.pointer none, .bool false]) u := by kernel_rfl
set_option maxHeartbeats 1600000 in
theorem lexSaid_l (b : Option Addr) (a : Nat) (s : List UInt8) (way : Int) (w : World) (hs : s.length <= 16777216) (ha : a <= 16777216) :
  Calls Tryz.prog 97 #[.pointer b, .int .i64 (a : Int), .string (B s), .int .i64 way] w fun e w' => e = .returned (saidV a (unescF way s 0)) /\ Below w.heap.size w w' := by
 obtain ⟨W, hW⟩ : ∃ W, w.alloc (.cells #[.int .i64 0, .int .i64 0] 111) = W := ⟨_, rfl⟩
 have HB0 : Hid (Below w.heap.size w W) := hid (by rw [<- hW]; exact (Below.refl _ _).alloc (Nat.le_refl _) _)
 have HK : Hid (RowAt W w.heap.size [.int .i64 0, .int .i64 0]) := hid (by rw [<- hW]; exact rowAt_of_heap (heap_alloc_new w _))
 have hz : w.heap.size < W.heap.size := World.block_lt_of_cell? _ _ (HK.out.cell (j := 0) (by simp))
 obtain ⟨y, hy⟩ : ∃ y, unescF way s 0 = y := ⟨_, rfl⟩
 rcases y with t | ⟨p, n⟩
 ·have UN := hid (fun (u : World) => unescape_ok hy hs u)
  have TA := fun u => assertNB u
  rw [hy]
  clear hy
  go_enter Tryz.func97, Tryz.ntmps97
  go_wp2_with (go_at_call 142; (with_reducible refine (UN.out _).mono ?_); rintro e w2 ⟨rfl, hb⟩; have HB := hid (HB0.out.trans (hb.mono HB0.out.size)); have HR := hid (RowAt.below HK.out hb hz); have c0 := HR.out.cell (j := 0) (by simp); have c1 := HR.out.cell (j := 1) (by simp); have g0 := HR.out.free (j := 0) (by simp); have g1 := HR.out.free (j := 1) (by simp); have hb2 := Nat.lt_of_lt_of_le hz hb.size; clear hb)
  refine bodyPost_ret (v := saidV a (.inl t)) (by simp [results, Tryz.results97, go_sem, c0, c1, saidV]) rfl ?_
  exact ⟨rfl, (HB.out.setCell (p := ⟨w.heap.size, 0, none⟩) (Nat.le_refl _) _).setCell (p := ⟨w.heap.size, 1, none⟩) (Nat.le_refl _) _⟩
 ·have UN := hid (fun (u : World) => unescape_bad hy hs u)
  have TE := fun u => assertE n u
  have hpb := (unesc_at way s s.length 0 p n (by omega) hy).1
  have WA : IntKind.i64.wrap ((a : Int) + (p : Int)) = (a : Int) + (p : Int) := IntWalk.i64_in _ (by omega)
  rw [hy]
  clear hy
  go_enter Tryz.func97, Tryz.ntmps97
  go_wp2_with (go_at_call 142; (with_reducible refine (UN.out _).mono ?_); rintro e w2 ⟨g, rfl, hE, hb⟩; have HB := hid (HB0.out.trans (hb.mono HB0.out.size)); have HR := hid (RowAt.below HK.out hb hz); have c0 := HR.out.cell (j := 0) (by simp); have c1 := HR.out.cell (j := 1) (by simp); have g0 := HR.out.free (j := 0) (by simp); have g1 := HR.out.free (j := 1) (by simp); have hb2 := Nat.lt_of_lt_of_le hz hb.size; obtain ⟨g', hgg, q1, q2⟩ := hE; cases hgg; have hgl := World.block_lt_of_cell? _ _ q1; have TB := fun u => assertBB (some ⟨g, 0, none⟩) u; clear hb)
  go_region
  all_goals (go_wp2_with fail)
  all_goals (refine bodyPost_ret (v := saidV a (.inr (p, n))) (by simp [results, Tryz.results97, go_sem, c0, c1, saidV]) rfl ?_)
  all_goals exact ⟨rfl, ((below_drewN_h HB.out 1).setCell (p := ⟨w.heap.size, 0, none⟩) (Nat.le_refl _) _).setCell (p := ⟨w.heap.size, 1, none⟩) (Nat.le_refl _) _⟩
end Go.Proofs.YtdhmpakhdhdebaaGreatDoor
namespace Go.Proofs.YtdhmpakhdhdebaaGreatDoor
open Go.Lib (hid)
open Go.RowKit
set_option maxRecDepth 100000
theorem lexTag_bad {s : List UInt8} (h : tagF s = none) (w : World) (hM : MaxAt w) (hs : s.length <= 4194304) : Calls Tryz.prog 100 #[.string (B s)] w fun e w' => e = .returned (.tuple #[.agg #[.string ⟨#[]⟩, .string ⟨#[]⟩, .string ⟨#[]⟩, .string ⟨#[]⟩, .slice none 0 0, .slice none 0 0, .string ⟨#[]⟩], .int .i64 61]) /\ Below w.heap.size w w' :=
 (tag_l s w hM hs).mono fun e w' hp => by
  rw [h] at hp
  exact hp
theorem lexTag_ok {s : List UInt8} {t : TagL} (h : tagF s = some t) (w : World) (hM : MaxAt w) (hs : s.length <= 4194304) : Calls Tryz.prog 100 #[.string (B s)] w fun e w' => (∃ x1 x2 x3 x4 x5 y5 z5 x6 y6 z6 x7, e = .returned (.tuple #[.agg #[.string x1, .string x2, .string x3, .string x4, .slice x5 y5 z5, .slice x6 y6 z6, .string x7], .int .i64 0])) /\ Below w.heap.size w w' :=
 (tag_l s w hM hs).mono fun e w' hp => by
  rw [h] at hp
  obtain ⟨a1, a2, c1, c2, he, hb, _⟩ := hp
  exact ⟨⟨_, _, _, _, _, _, _, _, _, _, _, he⟩, hb⟩
set_option maxHeartbeats 6400000 in
theorem lexTagged_l (l : List UInt8) (bad : Int) (i : Nat) (ev : Value) (b : Nat) (w : World) (h : LexAt w b l bad i ev) (hi : i < l.length) (hl : l.length <= 4194304) (hM : MaxAt w) :
  Calls Tryz.prog 69 #[.pointer (some ⟨b, 0, none⟩)] w fun e w' => TokRet e i (atG l i) /\ Below w.heap.size w w' := by
 have WF : IntKind.i64.wrap ((i : Int) + 1) = (i : Int) + 1 := IntWalk.i64_in _ (by omega)
 have MX := hid (fun (u : World) (hb : Below w.heap.size w u) => hM.below hb)
 have LT := hid lexLetter_l
 have DG := hid lexDigit_l
 obtain ⟨m, hm⟩ : ∃ m, tagE l (i + 1) = m := ⟨_, rfl⟩
 have hmb := tagE_bound l l.length (i + 1) (by omega) (by omega)
 rw [hm] at hmb
 have HM := hid hm
 clear hM hm
 obtain ⟨W, hW⟩ : ∃ W, (w.alloc (.cells #[.int .i64 0, .string ⟨#[]⟩, .string ⟨#[]⟩, .string ⟨#[]⟩, .int .i64 0, .int .i64 0] 50)).alloc (.cells #[.int .i64 0, .int .i64 0] 111) = W := ⟨_, rfl⟩
 have HB0 : Hid (Below w.heap.size w W) := hid (by rw [<- hW]; exact ((Below.refl _ _).alloc (Nat.le_refl _) _).alloc (by simp) _)
 have HK : Hid (TkAt W w.heap.size) := hid (by rw [<- hW]; exact tkAt_of (tk_new w).1 (tk_new w).2)
 have HX := hid (h.below HB0.out)
 have hn0 : ¬ b = w.heap.size := by have := h.lt; omega
 have hn1 : ¬ b = w.heap.size + 1 := by have := h.lt; omega
 have k0 : (0 : Int) <= (i : Int) := by omega
 have k1 : (i : Int) <= (l.length : Int) := by omega
 obtain ⟨x0, x1, x2, x3, f0, f1, f2, f3⟩ := RowAt.four HX.out
 have hbl := HX.out.lt
 obtain ⟨a0, a1, a2, a3, a4, a5, p0, p1, p2, p3, p4, p5, d0, d1, e0, e1, hlt⟩ := HK.out
 have hlt0 := Nat.lt_of_succ_lt hlt
 go_enter Tryz.func69, Tryz.ntmps69
 go_upto_block 0 with fail
 go_cut [5] from 15 (fun x5 wx => x5 = .int .i64 (m : Int) /\ wx = W)
 case first =>
  go_wp2_with fail
  go_loopw [5] (fun z wr => ∃ j : Nat, z = .int .i64 (j : Int) /\ i + 1 <= j /\ j <= l.length /\ Hid (tagE l j = m) /\ wr = W) (fun z _ => l.length - (intOf z).toNat)
  case atStart => exact ⟨i + 1, by go_num, by omega, by omega, HM, rfl⟩
  case round =>
   obtain ⟨j, rfl, hij, hj, HE, rfl⟩ := hrel
   have j0 : (0 : Int) <= (j : Int) := by omega
   have WJ : IntKind.i64.wrap ((j : Int) + 1) = (j : Int) + 1 := IntWalk.i64_in _ (by omega)
   by_cases hlt2 : j < l.length
   ·have c1 : decide ((j : Int) < (l.length : Int)) = true := decide_eq_true (by omega)
    have c2 : decide (j < l.length) = true := decide_eq_true hlt2
    have c3 : (j : Int) < (l.length : Int) := by omega
    have hg : l.getD j 0 = l[j] := by simp [List.getD, hlt2]
    have L1 := hid (LT.out l[j])
    have D1 := hid (DG.out l[j])
    have hq : tagC l[j] = (alphaC l[j] || (digC l[j] || l[j] == 45)) := by unfold tagC; rw [Bool.or_assoc]
    have HS : Hid (∀ q, tagC l[j] = q -> tagE l j = if q = true then tagE l (j + 1) else j) := hid (fun q h => by
     cases q with
     | true => rw [tagE_more hlt2 h]; rfl
     | false => rw [tagE_here hlt2 h]; rfl)
    obtain ⟨qa, ha⟩ : ∃ q, alphaC l[j] = q := ⟨_, rfl⟩
    obtain ⟨qd, hd⟩ : ∃ q, digC l[j] = q := ⟨_, rfl⟩
    rw [ha] at L1 hq
    rw [hd] at D1 hq
    have q45 : ((l[j].toNat : Int) == 45) = (l[j] == 45) := by
     by_cases h : l[j] = 45
     ·rw [h]; rfl
     ·rw [beq_eq_false_iff_ne.2 h]; exact byte_ne (d := 45) h
    obtain ⟨q5, h5⟩ : ∃ q, (l[j] == 45) = q := ⟨_, rfl⟩
    rw [h5] at q45 hq
    have HT := hid (HS.out _ hq)
    clear HS hq ha hd h5 hg
    have hcase : ((qa || (qd || q5)) = true /\ Hid (tagE l (j + 1) = m)) \/ ((qa || (qd || q5)) = false /\ Hid (j = m)) := by
     cases hh : (qa || (qd || q5)) with
     | true => exact .inl ⟨rfl, hid (by have := HT.out; rw [hh] at this; rw [<- HE.out, this]; rfl)⟩
     | false => exact .inr ⟨rfl, hid (by have := HT.out; rw [hh] at this; rw [<- HE.out, this]; rfl)⟩
    clear HT HE
    rcases hcase with ⟨hh, HN⟩ | ⟨hh, HN⟩
    ·cases qa <;> cases qd <;> cases q5
     all_goals first
      | (exfalso; revert hh; decide)
      | (clear hh; go_wp2_with (first | (go_at_call 99; (with_reducible refine (L1.out _).mono ?_); rintro e w1 ⟨rfl, hw⟩; rw [hw]; clear hw) | (go_at_call 70; (with_reducible refine (D1.out _).mono ?_); rintro e w1 ⟨rfl, hw⟩; rw [hw]; clear hw)); go_roundw; (case rel => exact ⟨j + 1, by go_num, by omega, by omega, HN, by first | rfl | trivial⟩); (case measure => simp [intOf]; omega))
    ·cases qa <;> cases qd <;> cases q5
     all_goals first
      | (exfalso; revert hh; decide)
      | (clear hh; go_wp2_with (first | (go_at_call 99; (with_reducible refine (L1.out _).mono ?_); rintro e w1 ⟨rfl, hw⟩; rw [hw]; clear hw) | (go_at_call 70; (with_reducible refine (D1.out _).mono ?_); rintro e w1 ⟨rfl, hw⟩; rw [hw]; clear hw)); go_meet; exact ⟨by rw [HN.out], by first | rfl | trivial⟩)
   ·have c1 : decide ((j : Int) < (l.length : Int)) = false := decide_eq_false (by omega)
    have c2 : decide (j < l.length) = false := decide_eq_false hlt2
    have HN : Hid (j = m) := hid (by rw [<- HE.out, tagE_end (by omega)])
    clear HE
    go_wp2_with fail
    go_meet
    exact ⟨by rw [HN.out], rfl⟩
 case rest =>
  obtain ⟨rfl, rfl⟩ := hcut
  obtain ⟨run, hrun⟩ : ∃ run, cutF l (i + 1) m = run := ⟨_, rfl⟩
  have hcut2 : List.take (m - (i + 1)) (List.drop (i + 1) l) = run := hrun
  have hrl : run.length <= 4194304 := by rw [<- hrun]; have := cutF_len l (i + 1) m; omega
  have HA : Hid (atG l i = if run = prefixW \/ run = baseW then .inl ⟨7, 64 :: run, [], [], (i : Nat), (m : Nat)⟩ else match tagF run with
   | none => .inr (i + 1, 61)
   | some _ => .inl ⟨5, lowL run, [], [], (i : Nat), (m : Nat)⟩) := hid (by unfold atG; rw [HM.out, hrun]; rfl)
  have m0 : (0 : Int) <= (i : Int) + 1 := by omega
  have m1 : (i : Int) + 1 <= (m : Int) := by omega
  have m2 : (m : Int) <= (l.length : Int) := by omega
  have WM : IntKind.i64.wrap ((m : Int) - (i : Int)) = (m : Int) - (i : Int) := IntWalk.i64_in _ (by omega)
  clear hrun
  by_cases h1 : run = prefixW
  ·go_wp2_with fail
   exact tok_done rfl HK.out HB0.out rfl rfl (by rw [HA.out, if_pos (.inl h1)]; exact tokRet_of (t := ⟨7, 64 :: run, [], [], (i : Nat), (m : Nat)⟩) (by rw [h1]; exact B_append [64] prefixW) rfl rfl rfl)
  have s1 : (run == [112, 114, 101, 102, 105, 120]) = false := beq_eq_false_iff_ne.2 h1
  by_cases h2 : run = baseW
  ·have s2 : run = [98, 97, 115, 101] := h2
   have HA2 : Hid (atG l i = .inl ⟨7, 64 :: run, [], [], (i : Nat), (m : Nat)⟩) := hid (by rw [HA.out, if_pos (.inr h2)])
   have HRU := hid h2
   clear h1 h2 HA
   go_wp2_with fail
   exact tok_done (V := wc) rfl HK.out HB0.out rfl rfl (by rw [HA2.out]; exact tokRet_of (t := ⟨7, 64 :: run, [], [], (i : Nat), (m : Nat)⟩) (by rw [HRU.out]; rfl) rfl rfl rfl)
  have s2 : (run == [98, 97, 115, 101]) = false := beq_eq_false_iff_ne.2 h2
  have HA2 : Hid (atG l i = match tagF run with
   | none => .inr (i + 1, 61)
   | some _ => .inl ⟨5, lowL run, [], [], (i : Nat), (m : Nat)⟩) := hid (by rw [HA.out, if_neg (by rintro (h | h); exact h1 h; exact h2 h)])
  clear HA h1 h2
  obtain ⟨y, hy⟩ : ∃ y, tagF run = y := ⟨_, rfl⟩
  rw [hy] at HA2
  rcases y with _ | tg
  ·have TG := hid (fun (u : World) (hb : Below w.heap.size w u) => lexTag_bad hy u (MX.out u hb) (by omega))
   clear hy
   go_wp2_with (go_at_call 100; (with_reducible refine (TG.out _ HB0.out).mono ?_); rintro e w2 ⟨rfl, hb⟩; replace HX := hid (@LexAt.below _ _ b l bad i ev (by exact HX.out) hb); replace HK := hid (@TkAt.below _ _ _ (by exact TkAt.same HK.out) hb); replace HB0 := hid (below_same HB0.out hb); clear x0 x1 x2 x3 f0 f1 f2 f3 hbl a0 a1 a2 a3 a4 a5 p0 p1 p2 p3 p4 p5 d0 d1 e0 e1 hlt hlt0 hb; obtain ⟨x0, x1, x2, x3, f0, f1, f2, f3⟩ := RowAt.four HX.out; have hbl := HX.out.lt; obtain ⟨a0, a1, a2, a3, a4, a5, p0, p1, p2, p3, p4, p5, d0, d1, e0, e1, hlt⟩ := HK.out; have hlt0 := Nat.lt_of_succ_lt hlt)
   exact tok_done_a (V := w2) rfl HK.out HB0.out rfl rfl (by rw [HA2.out]; exact ⟨_, _, _, _, _, _, rfl⟩)
  ·have TG := hid (fun (u : World) (hb : Below w.heap.size w u) => lexTag_ok hy u (MX.out u hb) (by omega))
   have LW := hid (fun (u : World) => lower_l run u (by unfold maxLen; omega))
   clear hy
   go_upto_region 11 with (go_at_call 100; (with_reducible refine (TG.out _ HB0.out).mono ?_); rintro e w2 ⟨⟨v1, v2, v3, v4, v5, r5, z5, v6, r6, z6, v7, rfl⟩, hb⟩; replace HX := hid (@LexAt.below _ _ b l bad i ev (by exact HX.out) hb); replace HK := hid (@TkAt.below _ _ _ (by exact TkAt.same HK.out) hb); replace HB0 := hid (below_same HB0.out hb); clear x0 x1 x2 x3 f0 f1 f2 f3 hbl a0 a1 a2 a3 a4 a5 p0 p1 p2 p3 p4 p5 d0 d1 e0 e1 hlt hlt0 hb; obtain ⟨x0, x1, x2, x3, f0, f1, f2, f3⟩ := RowAt.four HX.out; have hbl := HX.out.lt; obtain ⟨a0, a1, a2, a3, a4, a5, p0, p1, p2, p3, p4, p5, d0, d1, e0, e1, hlt⟩ := HK.out; have hlt0 := Nat.lt_of_succ_lt hlt)
   have hb : Below w2.heap.size w2 (w2.alloc (.cells #[.string v1, .string v2, .string v3, .string v4, .slice v5 r5 z5, .slice v6 r6 z6, .string v7] 192)) := (Below.refl _ _).alloc (Nat.le_refl _) _
   replace HX := hid (@LexAt.below _ _ b l bad i ev (by exact HX.out) hb); replace HK := hid (@TkAt.below _ _ _ (by exact TkAt.same HK.out) hb); replace HB0 := hid (below_same HB0.out hb); clear x0 x1 x2 x3 f0 f1 f2 f3 hbl a0 a1 a2 a3 a4 a5 p0 p1 p2 p3 p4 p5 d0 d1 e0 e1 hlt hlt0 hb; obtain ⟨x0, x1, x2, x3, f0, f1, f2, f3⟩ := RowAt.four HX.out; have hbl := HX.out.lt; obtain ⟨a0, a1, a2, a3, a4, a5, p0, p1, p2, p3, p4, p5, d0, d1, e0, e1, hlt⟩ := HK.out; have hlt0 := Nat.lt_of_succ_lt hlt
   generalize hV : w2.alloc (.cells #[.string v1, .string v2, .string v3, .string v4, .slice v5 r5 z5, .slice v6 r6 z6, .string v7] 192) = V at *
   clear hV
   go_region_with (go_at_call 101; (with_reducible refine (LW.out _).mono ?_); rintro e w3 ⟨rfl, hb⟩; replace HX := hid (@LexAt.below _ _ b l bad i ev (by exact HX.out) hb); replace HK := hid (@TkAt.below _ _ _ (by exact TkAt.same HK.out) hb); replace HB0 := hid (below_same HB0.out hb); clear x0 x1 x2 x3 f0 f1 f2 f3 hbl a0 a1 a2 a3 a4 a5 p0 p1 p2 p3 p4 p5 d0 d1 e0 e1 hlt hlt0 hb; obtain ⟨x0, x1, x2, x3, f0, f1, f2, f3⟩ := RowAt.four HX.out; have hbl := HX.out.lt; obtain ⟨a0, a1, a2, a3, a4, a5, p0, p1, p2, p3, p4, p5, d0, d1, e0, e1, hlt⟩ := HK.out; have hlt0 := Nat.lt_of_succ_lt hlt)
   all_goals (go_wp2_with fail)
   all_goals exact tok_done rfl HK.out HB0.out rfl rfl (by rw [HA2.out]; exact tokRet_of (t := ⟨5, lowL run, [], [], (i : Nat), (m : Nat)⟩) rfl rfl rfl rfl)
end Go.Proofs.YtdhmpakhdhdebaaGreatDoor
namespace Go.Proofs.YtdhmpakhdhdebaaGreatDoor
open Go.Lib (hid)
open Go.RowKit
set_option maxRecDepth 100000
theorem ix_some : ∀ (l : List UInt8) (c : UInt8), c ∈ l -> 0 <= Lib.indexByte l c
 | [], _, h => by cases h
 | b :: l, c, h => by
  rw [Lib.indexByte]
  by_cases hb : b = c
  ·rw [if_pos (by rw [hb, beq_self_eq_true])]; exact Int.le_refl _
  ·have ih := ix_some l c ((List.mem_cons.1 h).resolve_left (fun e => hb e.symm))
   rw [if_neg (by rw [beq_eq_false_iff_ne.2 hb]; simp), if_neg (by rw [beq_eq_false_iff_ne.2 (by omega)]; simp)]
   omega
theorem alloc_one {w w3 : World} {o : Obj} (hb : Below (w.alloc o).heap.size (w.alloc o) w3) : Below w.heap.size w w3 := ((Below.refl _ w).alloc (Nat.le_refl _) o).trans (hb.mono (by simp))
theorem drew_one {W u : World} (hb : Below W.drew.heap.size W.drew u) : Below W.heap.size W u := (below_drewN W 1).trans hb
theorem alloc_drew {W u : World} {o : Obj} (hb : Below (W.alloc o).drew.heap.size (W.alloc o).drew u) : Below W.heap.size W u := alloc_one (drew_one hb)
theorem boxP_drew {W u : World} {x y : Value} {T : TypeId} (hb : Below (W.alloc (.cells #[x, y] T)).drew.heap.size (W.alloc (.cells #[x, y] T)).drew u) : u.cell? ⟨W.heap.size, 0, none⟩ = some x /\ u.cell? ⟨W.heap.size, 1, none⟩ = some y /\ W.heap.size < u.heap.size := by
 have h := boxP_at (w := W) (x := x) (y := y) (T := T)
 have hz : W.heap.size < (W.alloc (.cells #[x, y] T)).heap.size := by simp
 have hd := drew_one hb
 exact ⟨(hd.cell (p := ⟨W.heap.size, 0, none⟩) hz).trans h.1, (hd.cell (p := ⟨W.heap.size, 1, none⟩) hz).trans h.2, Nat.lt_of_lt_of_le hz hd.size⟩
theorem free_drew {W u : World} {x y : Value} {T : TypeId} (hb : Below (W.alloc (.cells #[x, y] T)).drew.heap.size (W.alloc (.cells #[x, y] T)).drew u) : u.frozen? ⟨W.heap.size, 0, none⟩ = false /\ u.frozen? ⟨W.heap.size, 1, none⟩ = false := by
 have h := rowAt_of_heap (heap_alloc_new W (.cells [x, y].toArray T))
 have hz : W.heap.size < (W.alloc (.cells #[x, y] T)).heap.size := by simp
 have hd := drew_one hb
 exact ⟨(hd.frozen (p := ⟨W.heap.size, 0, none⟩) hz).trans (h.free (j := 0) (by simp)), (hd.frozen (p := ⟨W.heap.size, 1, none⟩) hz).trans (h.free (j := 1) (by simp))⟩
theorem TkAt.other {W : World} {g g8 : Nat} (h : TkAt W g) (h1 : g ≠ g8) (h2 : g + 1 ≠ g8) (o : Nat) (v : Value) : TkAt (W.setCell ⟨g8, o, none⟩ v) g := by
 have c : ∀ k x, W.cell? ⟨g, k, none⟩ = some x -> (W.setCell ⟨g8, o, none⟩ v).cell? ⟨g, k, none⟩ = some x := fun k x e => by rw [World.cell?_setCell_other _ _ _ _ (fun e => h1 (congrArg Addr.block e).symm)]; exact e
 have d : ∀ k x, W.cell? ⟨g + 1, k, none⟩ = some x -> (W.setCell ⟨g8, o, none⟩ v).cell? ⟨g + 1, k, none⟩ = some x := fun k x e => by rw [World.cell?_setCell_other _ _ _ _ (fun e => h2 (congrArg Addr.block e).symm)]; exact e
 have f : ∀ a, (W.setCell ⟨g8, o, none⟩ v).frozen? a = W.frozen? a := fun a => World.frozen?_setCell ..
 exact ⟨c _ _ h.a0, c _ _ h.a1, c _ _ h.a2, c _ _ h.a3, c _ _ h.a4, c _ _ h.a5, (f _).trans h.f0, (f _).trans h.f1, (f _).trans h.f2, (f _).trans h.f3, (f _).trans h.f4, (f _).trans h.f5, d _ _ h.d0, d _ _ h.d1, (f _).trans h.e0, (f _).trans h.e1, by simpa using h.lt⟩
theorem two_in {W : World} {g : Nat} {a b x y : Value} (h : W.cell? ⟨g, 0, none⟩ = some a /\ W.cell? ⟨g, 1, none⟩ = some b /\ g < W.heap.size) : ((W.setCell ⟨g, 0, none⟩ x).setCell ⟨g, 1, none⟩ y).cell? ⟨g, 0, none⟩ = some x /\ ((W.setCell ⟨g, 0, none⟩ x).setCell ⟨g, 1, none⟩ y).cell? ⟨g, 1, none⟩ = some y := by
 refine ⟨?_, ?_⟩
 ·rw [World.cell?_setCell_other _ _ _ _ (by simp)]
  exact World.cell?_setCell_same _ _ _ h.1
 ·exact World.cell?_setCell_same _ _ _ (by rw [World.cell?_setCell_other _ _ _ _ (by simp)]; exact h.2.1)
theorem no_has (c : UInt8) : decide (0 <= Lib.indexByte noI c) = noI.contains c := by
 cases h : noI.contains c with
 | true => exact decide_eq_true (ix_some _ _ (List.contains_iff_mem.1 h))
 | false => rw [ix_none _ c (fun b hb e => by rw [List.contains_iff_mem.2 (e ▸ hb)] at h; cases h)]; rfl
set_option maxHeartbeats 32000000 in
theorem lexIri_l (l : List UInt8) (bad : Int) (i : Nat) (ev : Value) (b : Nat) (w : World) (h : LexAt w b l bad i ev) (hi : i < l.length) (hl : l.length <= 4194304) :
  Calls Tryz.prog 66 #[.pointer (some ⟨b, 0, none⟩)] w fun e w' => TokRet e i (iriG l i) /\ Below w.heap.size w w' := by
 have WF : IntKind.i64.wrap ((i : Int) + 1) = (i : Int) + 1 := IntWalk.i64_in _ (by omega)
 have m0 : (0 : Int) <= (i : Int) + 1 := by omega
 have m1 : (i : Int) + 1 <= (l.length : Int) := by omega
 obtain ⟨r, hr⟩ : ∃ r, List.drop (i + 1) l = r := ⟨_, rfl⟩
 have hrl : r.length = l.length - (i + 1) := by rw [<- hr]; simp
 have htk : List.take (l.length - (i + 1)) r = r := List.take_of_length_le (by omega)
 have HL := hid hrl
 have IB := hid (fun (c : UInt8) (u : World) => Tryz.strings_IndexByte { data := #[60, 34, 123, 125, 124, 94, 96] } (c.toNat : Int) u)
 have SA := hid (fun (s : List UInt8) (u : World) (hs : s.length <= 4194304) => lexSaid_l (some ⟨b, 0, none⟩) (i + 1) s 2 u (by omega) (by omega))
 clear hrl
 obtain ⟨W, hW⟩ : ∃ W, (w.alloc (.cells #[.int .i64 0, .string ⟨#[]⟩, .string ⟨#[]⟩, .string ⟨#[]⟩, .int .i64 0, .int .i64 0] 50)).alloc (.cells #[.int .i64 0, .int .i64 0] 111) = W := ⟨_, rfl⟩
 have HB0 : Hid (Below w.heap.size w W) := hid (by rw [<- hW]; exact ((Below.refl _ _).alloc (Nat.le_refl _) _).alloc (by simp) _)
 have HK : Hid (TkAt W w.heap.size) := hid (by rw [<- hW]; exact tkAt_of (tk_new w).1 (tk_new w).2)
 have HX := hid (h.below HB0.out)
 have hn0 : ¬ b = w.heap.size := by have := h.lt; omega
 have hn1 : ¬ b = w.heap.size + 1 := by have := h.lt; omega
 have k0 : (0 : Int) <= (i : Int) := by omega
 have k1 : (i : Int) <= (l.length : Int) := by omega
 obtain ⟨x0, x1, x2, x3, f0, f1, f2, f3⟩ := RowAt.four HX.out
 have hbl := HX.out.lt
 obtain ⟨a0, a1, a2, a3, a4, a5, p0, p1, p2, p3, p4, p5, d0, d1, e0, e1, hlt⟩ := HK.out
 have hlt0 := Nat.lt_of_succ_lt hlt
 go_enter Tryz.func66, Tryz.ntmps66
 go_wp2_with fail
 go_quiet (fail)
 go_wp2_with fail
 go_loopw [21] (fun z wr => ∃ k : Nat, z = .int .i64 (k : Int) /\ k <= r.length /\ Hid (scanI l (i + 1 + k) = scanI l (i + 1)) /\ Hid (LexAt wr b l bad i ev) /\ Hid (TkAt wr w.heap.size) /\ Hid (Below w.heap.size w wr)) (fun z _ => r.length - (intOf z).toNat)
 case atStart => exact ⟨0, rfl, Nat.zero_le _, hid rfl, hid (HX.out.drewN _), hid (HK.out.drewN _), hid (below_drewN_h HB0.out _)⟩
 case round =>
  obtain ⟨k, rfl, hk, HE, HX2, HK2, HB2⟩ := hrel
  clear HX HK HB0 htk x0 x1 x2 x3 f0 f1 f2 f3 hbl a0 a1 a2 a3 a4 a5 p0 p1 p2 p3 p4 p5 d0 d1 e0 e1 hlt hlt0
  obtain ⟨W0, hW0⟩ : ∃ W0 : World, W0 = wr := ⟨_, rfl⟩
  subst hW0
  have HX := HX2
  have HK := HK2
  have HB0 := HB2
  clear HX2 HK2 HB2
  obtain ⟨x0, x1, x2, x3, f0, f1, f2, f3⟩ := RowAt.four HX.out
  have hbl := HX.out.lt
  obtain ⟨a0, a1, a2, a3, a4, a5, p0, p1, p2, p3, p4, p5, d0, d1, e0, e1, hlt⟩ := HK.out
  have hlt0 := Nat.lt_of_succ_lt hlt
  have hbW := HX.out.lt
  have hlW := HK.out.lt
  have kk0 : (0 : Int) <= (k : Int) := by omega
  have WK : IntKind.i64.wrap ((k : Int) + 1) = (k : Int) + 1 := IntWalk.i64_in _ (by have := HL.out; omega)
  have HE2 : Hid (scanI l (i + 1) = scanI l (i + 1 + k)) := hid HE.out.symm
  clear HE
  by_cases hkl : k < r.length
  ·have c1 : decide ((k : Int) < (r.length : Int)) = true := decide_eq_true (by omega)
   have c2 : decide (k < r.length) = true := decide_eq_true hkl
   have c3 : (k : Int) < (r.length : Int) := by omega
   have hik : i + 1 + k < l.length := by have := HL.out; omega
   have hg : l.getD (i + 1 + k) 0 = r[k] := by simp [<- hr, List.getD, hik]
   have HG := hid hg
   clear hg
   by_cases h62 : r[k] = 62
   ·have y62 : ((r[k].toNat : Int) == 62) = true := by rw [h62]; rfl
    have HS : Hid (scanI l (i + 1) = .inl (i + 1 + k)) := hid (by rw [HE2.out, scanI_hit hik (by rw [HG.out]; exact h62)])
    obtain ⟨s, hs⟩ : ∃ s, List.take k r = s := ⟨_, rfl⟩
    have hsl : s.length <= 4194304 := by rw [<- hs]; have := HL.out; simp; omega
    have HC : Hid (cutF l (i + 1) (i + 1 + k) = s) := hid (by unfold cutF; rw [hr, Nat.add_sub_cancel_left]; exact hs)
    have SD := hid (fun (u : World) => SA.out s u hsl)
    have e1 : ((i + 1 : Nat) : Int) = (i : Int) + 1 := by omega
    rw [e1] at SD
    have W2 : IntKind.i64.wrap ((k : Int) + 2) = (k : Int) + 2 := IntWalk.i64_in _ (by have := HL.out; omega)
    have kr : (k : Int) <= (r.length : Int) := by omega
    obtain ⟨y, hy⟩ : ∃ y, unescF 2 s 0 = y := ⟨_, rfl⟩
    rw [hy] at SD
    clear HE2 h62 HG SA IB
    rcases y with t | ⟨p, n⟩
    ·have HI : Hid (iriG l i = .inl ⟨1, t, [], [], (i : Nat), (i + 1 + k + 1 : Nat)⟩) := hid (by unfold iriG; rw [HS.out]; simp only; rw [HC.out, hy])
     have SD2 : Hid (∀ u, Calls Tryz.prog 97 #[.pointer (some ⟨b, 0, none⟩), .int .i64 ((i : Int) + 1), .string (B s), .int .i64 2] u fun e w' => e = .returned (.tuple #[.string (B t), .agg #[.int .i64 0, .int .i64 0]]) /\ Below u.heap.size u w') := SD
     clear SD HS HC hy
     have SD := SD2
     clear SD2
     go_wp2_with fail
     go_region_with (go_at_call 97; (with_reducible refine (SD.out _).mono ?_); rintro e w3 ⟨rfl, hb⟩; have hb0 : Below W0.heap.size W0 w3 := (by first | exact drew_one hb | exact alloc_one hb | exact alloc_drew hb | exact hb); (first | (have q8 := boxP_drew hb; have q9 := free_drew hb) | (have q8 := trivial; have q9 := trivial)); replace HX := hid (HX.out.below hb0); replace HK := hid (HK.out.below hb0); replace HB0 := hid (HB0.out.trans (hb0.mono HB0.out.size)); have hsz := hb0.size; clear x0 x1 x2 x3 f0 f1 f2 f3 hbl a0 a1 a2 a3 a4 a5 p0 p1 p2 p3 p4 p5 d0 d1 e0 e1 hlt hlt0 hb hb0; obtain ⟨x0, x1, x2, x3, f0, f1, f2, f3⟩ := RowAt.four HX.out; have hbl := HX.out.lt; obtain ⟨a0, a1, a2, a3, a4, a5, p0, p1, p2, p3, p4, p5, d0, d1, e0, e1, hlt⟩ := HK.out; have hlt0 := Nat.lt_of_succ_lt hlt)
     all_goals (go_upto_region 8 with fail)
     all_goals (first | (obtain ⟨V, hV⟩ : ∃ V, w3.alloc (.cells #[(.int .i64 0), (.int .i64 0)] 111) = V := ⟨_, rfl⟩; rw [hV]; have hbv : Below w3.heap.size w3 V := (by rw [<- hV]; exact (Below.refl _ _).alloc (Nat.le_refl _) _); have t8 := boxP_at (w := w3) (x := (.int .i64 0)) (y := (.int .i64 0)) (T := 111); rw [hV] at t8; obtain ⟨t0, t1⟩ := t8; have h81 : ¬ w3.heap.size = w.heap.size := (by omega); have h82 : ¬ w3.heap.size = w.heap.size + 1 := (by omega); replace HX := hid (HX.out.below hbv); replace HK := hid (HK.out.below hbv); replace HB0 := hid (HB0.out.trans (hbv.mono HB0.out.size)); clear hV hbv q8 q9; clear x0 x1 x2 x3 f0 f1 f2 f3 hbl a0 a1 a2 a3 a4 a5 p0 p1 p2 p3 p4 p5 d0 d1 e0 e1 hlt hlt0; obtain ⟨x0, x1, x2, x3, f0, f1, f2, f3⟩ := RowAt.four HX.out; have hbl := HX.out.lt; obtain ⟨a0, a1, a2, a3, a4, a5, p0, p1, p2, p3, p4, p5, d0, d1, e0, e1, hlt⟩ := HK.out; have hlt0 := Nat.lt_of_succ_lt hlt) | (obtain ⟨V, hV⟩ : ∃ V, (w3.setCell ⟨W0.heap.size, 0, none⟩ (.int .i64 0)).setCell ⟨W0.heap.size, 1, none⟩ (.int .i64 0) = V := ⟨_, rfl⟩; rw [hV]; have t8 := two_in (x := (.int .i64 0)) (y := (.int .i64 0)) q8; rw [hV] at t8; obtain ⟨t0, t1⟩ := t8; have h81 : ¬ W0.heap.size = w.heap.size := (by omega); have h82 : ¬ W0.heap.size = w.heap.size + 1 := (by omega); replace HX : Hid (LexAt V b l bad i ev) := hid (by rw [<- hV]; exact RowAt.other (g' := W0.heap.size) (RowAt.other (g' := W0.heap.size) HX.out (by omega) _) (by omega) _); replace HK : Hid (TkAt V w.heap.size) := hid (by rw [<- hV]; exact TkAt.other (g8 := W0.heap.size) (TkAt.other (g8 := W0.heap.size) HK.out (by omega) (by omega) _ _) (by omega) (by omega) _ _); replace HB0 : Hid (Below w.heap.size w V) := hid (by rw [<- hV]; exact (HB0.out.setCell (p := ⟨W0.heap.size, 0, none⟩) (by simp only; omega) _).setCell (p := ⟨W0.heap.size, 1, none⟩) (by simp only; omega) _); clear hV q8 q9; clear x0 x1 x2 x3 f0 f1 f2 f3 hbl a0 a1 a2 a3 a4 a5 p0 p1 p2 p3 p4 p5 d0 d1 e0 e1 hlt hlt0; obtain ⟨x0, x1, x2, x3, f0, f1, f2, f3⟩ := RowAt.four HX.out; have hbl := HX.out.lt; obtain ⟨a0, a1, a2, a3, a4, a5, p0, p1, p2, p3, p4, p5, d0, d1, e0, e1, hlt⟩ := HK.out; have hlt0 := Nat.lt_of_succ_lt hlt))
     all_goals (go_wp2_with fail)
     all_goals (go_region)
     all_goals (go_wp2_with fail)
     all_goals exact tok_done_d (V := V) rfl HK.out HB0.out rfl rfl (by rw [HI.out]; exact tokRet_of (t := ⟨1, t, [], [], (i : Nat), (i + 1 + k + 1 : Nat)⟩) rfl rfl rfl (by simp only; omega))
    ·have HI : Hid (iriG l i = .inr (i + 1 + p, n)) := hid (by unfold iriG; rw [HS.out]; simp only; rw [HC.out, hy])
     have SD2 : Hid (∀ u, Calls Tryz.prog 97 #[.pointer (some ⟨b, 0, none⟩), .int .i64 ((i : Int) + 1), .string (B s), .int .i64 2] u fun e w' => e = .returned (.tuple #[.string ⟨#[]⟩, .agg #[.int .i64 ((i : Int) + 1 + (p : Int)), .int .i64 n]]) /\ Below u.heap.size u w') := hid (fun u => by have h := SD.out u; simp only [saidV, e1] at h; exact h)
     clear SD HS HC hy
     have SD := SD2
     clear SD2
     go_wp2_with fail
     go_region_with (go_at_call 97; (with_reducible refine (SD.out _).mono ?_); rintro e w3 ⟨rfl, hb⟩; have hb0 : Below W0.heap.size W0 w3 := (by first | exact drew_one hb | exact alloc_one hb | exact alloc_drew hb | exact hb); (first | (have q8 := boxP_drew hb; have q9 := free_drew hb) | (have q8 := trivial; have q9 := trivial)); replace HX := hid (HX.out.below hb0); replace HK := hid (HK.out.below hb0); replace HB0 := hid (HB0.out.trans (hb0.mono HB0.out.size)); have hsz := hb0.size; clear x0 x1 x2 x3 f0 f1 f2 f3 hbl a0 a1 a2 a3 a4 a5 p0 p1 p2 p3 p4 p5 d0 d1 e0 e1 hlt hlt0 hb hb0; obtain ⟨x0, x1, x2, x3, f0, f1, f2, f3⟩ := RowAt.four HX.out; have hbl := HX.out.lt; obtain ⟨a0, a1, a2, a3, a4, a5, p0, p1, p2, p3, p4, p5, d0, d1, e0, e1, hlt⟩ := HK.out; have hlt0 := Nat.lt_of_succ_lt hlt)
     all_goals (go_upto_region 8 with fail)
     all_goals (first | (obtain ⟨V, hV⟩ : ∃ V, w3.alloc (.cells #[(.int .i64 ((i : Int) + 1 + (p : Int))), (.int .i64 n)] 111) = V := ⟨_, rfl⟩; rw [hV]; have hbv : Below w3.heap.size w3 V := (by rw [<- hV]; exact (Below.refl _ _).alloc (Nat.le_refl _) _); have t8 := boxP_at (w := w3) (x := (.int .i64 ((i : Int) + 1 + (p : Int)))) (y := (.int .i64 n)) (T := 111); rw [hV] at t8; obtain ⟨t0, t1⟩ := t8; have h81 : ¬ w3.heap.size = w.heap.size := (by omega); have h82 : ¬ w3.heap.size = w.heap.size + 1 := (by omega); replace HX := hid (HX.out.below hbv); replace HK := hid (HK.out.below hbv); replace HB0 := hid (HB0.out.trans (hbv.mono HB0.out.size)); clear hV hbv q8 q9; clear x0 x1 x2 x3 f0 f1 f2 f3 hbl a0 a1 a2 a3 a4 a5 p0 p1 p2 p3 p4 p5 d0 d1 e0 e1 hlt hlt0; obtain ⟨x0, x1, x2, x3, f0, f1, f2, f3⟩ := RowAt.four HX.out; have hbl := HX.out.lt; obtain ⟨a0, a1, a2, a3, a4, a5, p0, p1, p2, p3, p4, p5, d0, d1, e0, e1, hlt⟩ := HK.out; have hlt0 := Nat.lt_of_succ_lt hlt) | (obtain ⟨V, hV⟩ : ∃ V, (w3.setCell ⟨W0.heap.size, 0, none⟩ (.int .i64 ((i : Int) + 1 + (p : Int)))).setCell ⟨W0.heap.size, 1, none⟩ (.int .i64 n) = V := ⟨_, rfl⟩; rw [hV]; have t8 := two_in (x := (.int .i64 ((i : Int) + 1 + (p : Int)))) (y := (.int .i64 n)) q8; rw [hV] at t8; obtain ⟨t0, t1⟩ := t8; have h81 : ¬ W0.heap.size = w.heap.size := (by omega); have h82 : ¬ W0.heap.size = w.heap.size + 1 := (by omega); replace HX : Hid (LexAt V b l bad i ev) := hid (by rw [<- hV]; exact RowAt.other (g' := W0.heap.size) (RowAt.other (g' := W0.heap.size) HX.out (by omega) _) (by omega) _); replace HK : Hid (TkAt V w.heap.size) := hid (by rw [<- hV]; exact TkAt.other (g8 := W0.heap.size) (TkAt.other (g8 := W0.heap.size) HK.out (by omega) (by omega) _ _) (by omega) (by omega) _ _); replace HB0 : Hid (Below w.heap.size w V) := hid (by rw [<- hV]; exact (HB0.out.setCell (p := ⟨W0.heap.size, 0, none⟩) (by simp only; omega) _).setCell (p := ⟨W0.heap.size, 1, none⟩) (by simp only; omega) _); clear hV q8 q9; clear x0 x1 x2 x3 f0 f1 f2 f3 hbl a0 a1 a2 a3 a4 a5 p0 p1 p2 p3 p4 p5 d0 d1 e0 e1 hlt hlt0; obtain ⟨x0, x1, x2, x3, f0, f1, f2, f3⟩ := RowAt.four HX.out; have hbl := HX.out.lt; obtain ⟨a0, a1, a2, a3, a4, a5, p0, p1, p2, p3, p4, p5, d0, d1, e0, e1, hlt⟩ := HK.out; have hlt0 := Nat.lt_of_succ_lt hlt))
     all_goals (go_wp2_with fail)
     all_goals (go_region)
     all_goals (go_wp2_with fail)
     all_goals exact tok_done_d (V := V) rfl HK.out HB0.out rfl rfl (by rw [HI.out]; exact ⟨_, _, _, _, _, _, by rw [show (((i + 1 + p : Nat) : Nat) : Int) = (i : Int) + 1 + (p : Int) by omega]⟩)
   ·have y62 : ((r[k].toNat : Int) == 62) = false := byte_ne (d := 62) h62
    have WX : IntKind.i64.wrap ((i : Int) + 1 + (k : Int)) = (i : Int) + 1 + (k : Int) := IntWalk.i64_in _ (by omega)
    have I1 := hid (fun (u : World) => show Calls Tryz.prog 72 #[.string { data := #[60, 34, 123, 125, 124, 94, 96] }, .int .u8 (r[k].toNat : Int)] u (fun e w' => e = .returned (.int .i64 (Lib.indexByte noI r[k])) /\ w' = u) from by
     have h := IB.out r[k] u
     rw [show ((r[k].toNat : Int).toNat.toUInt8) = r[k] from by simp] at h
     exact h)
    obtain ⟨z, hz⟩ : ∃ z, Lib.indexByte noI r[k] = z := ⟨_, rfl⟩
    have hq := no_has r[k]
    rw [hz] at I1 hq
    cases hb : badI r[k] with
    | true =>
     have HI : Hid (iriG l i = .inr (i + 1 + k, 100)) := hid (by unfold iriG; rw [HE2.out, scanI_bad hik (by rw [HG.out]; exact h62) (by rw [HG.out]; exact hb)])
     have hp : (((i + 1 + k : Nat) : Nat) : Int) = (i : Int) + 1 + (k : Int) := by omega
     have HP := hid hp
     clear hp
     by_cases h32 : r[k].toNat <= 32
     ·have y32 : decide ((r[k].toNat : Int) <= 32) = true := decide_eq_true (by omega)
      clear HE2 HG h62 hb hq hz IB SA
      go_wp2_with fail
      go_region
      all_goals (go_wp2_with fail)
      all_goals exact tok_done_d (V := W0) rfl HK.out HB0.out rfl rfl (by rw [HI.out]; exact ⟨_, _, _, _, _, _, by rw [HP.out]⟩)
     ·have y32 : decide ((r[k].toNat : Int) <= 32) = false := decide_eq_false (by omega)
      have yz : decide (0 <= z) = true := by rw [hq]; unfold badI at hb; rw [decide_eq_false h32, Bool.false_or] at hb; exact hb
      clear HE2 HG h62 hb hq hz IB SA
      go_wp2_with (go_at_call 72; (with_reducible refine (I1.out _).mono ?_); rintro e w2 ⟨rfl, hw⟩; rw [hw]; clear hw)
      go_region
      all_goals (go_wp2_with fail)
      all_goals exact tok_done_d (V := W0) rfl HK.out HB0.out rfl rfl (by rw [HI.out]; exact ⟨_, _, _, _, _, _, by rw [HP.out]⟩)
    | false =>
     have HN : Hid (scanI l (i + 1 + (k + 1)) = scanI l (i + 1)) := hid (by rw [HE2.out, scanI_go hik (by rw [HG.out]; exact h62) (by rw [HG.out]; exact hb)]; rfl)
     have hb2 : r[k].toNat <= 32 -> False := fun h => by unfold badI at hb; rw [decide_eq_true h] at hb; cases hb
     have y32 : decide ((r[k].toNat : Int) <= 32) = false := decide_eq_false (fun h => hb2 (by omega))
     have yz : decide (0 <= z) = false := by rw [hq]; unfold badI at hb; exact (Bool.or_eq_false_iff.1 hb).2
     clear HE2 HG h62 hb hb2 hq hz IB SA
     go_wp2_with (go_at_call 72; (with_reducible refine (I1.out _).mono ?_); rintro e w2 ⟨rfl, hw⟩; rw [hw]; clear hw)
     go_roundw
     case rel => exact ⟨k + 1, by go_num, by omega, HN, HX, HK, HB0⟩
     case measure => simp [intOf]; omega
  ·have c1 : decide ((k : Int) < (r.length : Int)) = false := decide_eq_false (by omega)
   have c2 : decide (k < r.length) = false := decide_eq_false hkl
   have HI : Hid (iriG l i = .inr (l.length, 100)) := hid (by unfold iriG; rw [HE2.out, scanI_end (by have := HL.out; omega)])
   clear HE2 IB SA
   go_wp2_with fail
   go_region
   all_goals (go_wp2_with fail)
   all_goals exact tok_done_d (V := W0) rfl HK.out HB0.out rfl rfl (by rw [HI.out]; exact ⟨_, _, _, _, _, _, rfl⟩)
end Go.Proofs.YtdhmpakhdhdebaaGreatDoor
