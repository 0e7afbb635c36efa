/-
  lexis.Lexer.Next: contracts, one for each way. By an AI agent.
-/
import Derived.Test.YtdhmpakhdhdebaaGreatDoorZLexW15
namespace Go.Proofs.YtdhmpakhdhdebaaGreatDoor
open Go.Lib (hid)
open Go.RowKit
set_option maxRecDepth 100000
def TokPost (w : World) (b : Nat) (l : List UInt8) (bad : Int) (t : TokL) (e : Ending) (w' : World) : Prop :=
 e = .returned (.tuple #[tokV t.kind (B t.text) (B t.loc) (B t.typ) t.at_ t.fin, .nilIface]) /\ LexAt w' b l bad t.fin.toNat .nilIface /\ w.grownBy w' (some b)
theorem next_core {fn : Func} (hr : fn.results = #[.cell 2 50, .tmp 3]) {w U : World} {g b : Nat} {l : List UInt8} {bad : Int} {t : TokL} {tm : Array Value} {k a e : Int} {x y z : ByteArray} (HT : RowAt U g [.int .i64 k, .string x, .string y, .string z, .int .i64 a, .int .i64 e]) (HX : LexAt U b l bad t.fin.toNat .nilIface) (HG : w.grownBy U (some b))
  (ht : tokV k x y z a e = tokV t.kind (B t.text) (B t.loc) (B t.typ) t.at_ t.fin) (h2 : tm.getD 2 undef = .pointer (some ⟨g, 0, none⟩)) (h3 : tm.getD 3 undef = .nilIface) :
  bodyPost Tryz.prog fn (TokPost w b l bad t) .ret { tmps := tm, defers := [] } U :=
 bodyPost_ret (results_tv fn hr tm _ g .nilIface k x y z a e h2 h3 HT) rfl ⟨by rw [ht], HX, HG⟩
theorem one_new (w : World) : RowAt (w.alloc (.cells #[.int .i64 0, .string ⟨#[]⟩, .string ⟨#[]⟩, .string ⟨#[]⟩, .int .i64 0, .int .i64 0] 50)) w.heap.size TokZ := rowAt_of_heap (heap_alloc_new w (.cells #[.int .i64 0, .string ⟨#[]⟩, .string ⟨#[]⟩, .string ⟨#[]⟩, .int .i64 0, .int .i64 0] 50))
theorem fail_from {w u : World} {b : Nat} {l : List UInt8} {bad : Int} {i : Nat} {q : Nat × Int} {g : Nat} {fn : Func} {s s' : Nat} {tm : Array Value} {vs : List Value} {v v2 : Value} {V : World} (hr : fn.results = #[.cell s 50, .tmp s']) (HG : w.grownBy u (some b)) (hg : w.heap.size <= g) (hb : b ≠ g) (HT : RowAt u g vs) (h6 : vs.length = 6) (hs : ∃ s, vs[1]'(by omega) = .string s) (HX : LexAt V b l bad i v2) (HE : ErrIs V v (.inr q)) (HE2 : ErrIs V v2 (.inr q)) (HV : u.grownBy V (some b))
  (h4 : tm.getD s undef = .pointer (some ⟨g, 0, none⟩)) (h5 : tm.getD s' undef = v) : bodyPost Tryz.prog fn (FailPost w b l bad i q) .ret { tmps := tm, defers := [] } (six V g 0 ⟨#[]⟩ ⟨#[]⟩ ⟨#[]⟩ 0 0) :=
 fail_done hr hg hb (HT.grows (by omega) HV hb.symm) h6 hs HX HE HE2 (grownR_trans HG HV) h4 h5
set_option maxHeartbeats 3200000 in
theorem lexNext_end (l : List UInt8) (bad : Int) (i g : Nat) (b : Nat) (w : World) (h : LexAt w b l bad i .nilIface) (hi : i <= l.length) (hl : l.length <= 4194304) (hgap : gapF l i = g) (hge : g = l.length) (e1 : decide ((0 : Int) <= bad) = false) :
  Calls Tryz.prog 25 #[.pointer (some ⟨b, 0, none⟩)] w (TokPost w b l bad ⟨0, [], [], [], (g : Nat), (g : Nat)⟩) := by
 have y1 : ((g : Int) == (l.length : Int)) = true := by rw [hge]; exact beq_self_eq_true _
 clear hge
 obtain ⟨W, hW⟩ : ∃ W, w.alloc (.cells #[.int .i64 0, .string ⟨#[]⟩, .string ⟨#[]⟩, .string ⟨#[]⟩, .int .i64 0, .int .i64 0] 50) = W := ⟨_, rfl⟩
 have HB0 : Hid (Below w.heap.size w W) := hid (by rw [<- hW]; exact (Below.refl _ _).alloc (Nat.le_refl _) _)
 have HT : Hid (RowAt W w.heap.size TokZ) := hid (by rw [<- hW]; exact one_new w)
 have HX := hid (h.below HB0.out)
 have hn0 : ¬ b = w.heap.size := by have := h.lt; omega
 have HG : Hid (w.grownBy W (some b)) := hid (below_grown HB0.out _)
 have BL := hid (fun (u : World) (hx : LexAt u b l bad i .nilIface) => hgap ▸ lexBlanks_l l bad i .nilIface b u hx hi (by omega))
 have hgb : i <= g /\ g <= l.length := by rw [<- hgap]; exact gap_le hi
 have k0 : (0 : Int) <= (g : Int) := by omega
 have k1 : (g : Int) <= (l.length : Int) := by omega
 obtain ⟨x0, x1, x2, x3, f0, f1, f2, f3⟩ := RowAt.four HX.out
 have hbl := HX.out.lt
 obtain ⟨⟨a0, a1, a2, a3, a4, a5⟩, p0, p1, p2, p3, p4, p5⟩ := row6 HT.out
 have hlt := HT.out.inside
 clear h hgap
 go_enter Tryz.func25, Tryz.ntmps25
 go_wp2_with (go_at_call 43; (with_reducible refine (BL.out _ ?_).mono ?_); (exact HX.out); rintro e w1 ⟨rfl, hx1, hg1⟩; have HX1 := hid hx1; have HT1 := hid (RowAt.grows HT.out (by simp [TokZ]) hg1 (Ne.symm hn0)); have HG1 := hid (grownR_trans HG.out hg1); clear hx1 hg1 HX HT HG; have HX := HX1; have HT := HT1; have HG := HG1; clear HX1 HT1 HG1; clear x0 x1 x2 x3 f0 f1 f2 f3 hbl a0 a1 a2 a3 a4 a5 p0 p1 p2 p3 p4 p5 hlt; obtain ⟨x0, x1, x2, x3, f0, f1, f2, f3⟩ := RowAt.four HX.out; have hbl := HX.out.lt; obtain ⟨⟨a0, a1, a2, a3, a4, a5⟩, p0, p1, p2, p3, p4, p5⟩ := row6 HT.out; have hlt := HT.out.inside)
 go_quiet (fail)
 go_wp2_with fail
 go_region
 all_goals (go_wp2_with fail)
 all_goals exact next_core (t := ⟨0, [], [], [], (g : Nat), (g : Nat)⟩) rfl (six_row (rowN HT.out _) rfl _ _ _ _ _ _) (six_lex (HX.out.drewN _) hn0 _ _ _ _ _ _) (six_grown (grown_drewN HG.out _) (Nat.le_refl _) _ _ _ _ _ _) rfl rfl rfl
set_option maxHeartbeats 3200000 in
theorem lexNext_bad (l : List UInt8) (bad : Int) (i g : Nat) (b : Nat) (w : World) (h : LexAt w b l bad i .nilIface) (hi : i <= l.length) (hl : l.length <= 4194304) (hgap : gapF l i = g) (hge : g = l.length) (e1 : decide ((0 : Int) <= bad) = true) (P : Nat) (hP : bad = (P : Int)) :
  Calls Tryz.prog 25 #[.pointer (some ⟨b, 0, none⟩)] w (FailPost w b l bad g (P, 40)) := by
 have y1 : ((g : Int) == (l.length : Int)) = true := by rw [hge]; exact beq_self_eq_true _
 have FC : Hid (∀ (u : World) (hx : LexAt u b l bad g .nilIface), Calls Tryz.prog 44 #[.pointer (some ⟨b, 0, none⟩), .agg #[.int .i64 bad, .int .i64 40]] u (FailPost u b l bad g (P, 40))) := hid (fun u hx => by
  have := lexFail_c l bad g .nilIface b u P P 40 40 hx true true e1 (by rw [hP]; exact decide_eq_true (Int.le_refl _)) (hid (by rw [if_pos ⟨rfl, rfl⟩]; exact ⟨hP, rfl⟩))
  rwa [<- hP] at this)
 clear hge hP
 obtain ⟨W, hW⟩ : ∃ W, w.alloc (.cells #[.int .i64 0, .string ⟨#[]⟩, .string ⟨#[]⟩, .string ⟨#[]⟩, .int .i64 0, .int .i64 0] 50) = W := ⟨_, rfl⟩
 have HB0 : Hid (Below w.heap.size w W) := hid (by rw [<- hW]; exact (Below.refl _ _).alloc (Nat.le_refl _) _)
 have HT : Hid (RowAt W w.heap.size TokZ) := hid (by rw [<- hW]; exact one_new w)
 have HX := hid (h.below HB0.out)
 have hn0 : ¬ b = w.heap.size := by have := h.lt; omega
 have HG : Hid (w.grownBy W (some b)) := hid (below_grown HB0.out _)
 have BL := hid (fun (u : World) (hx : LexAt u b l bad i .nilIface) => hgap ▸ lexBlanks_l l bad i .nilIface b u hx hi (by omega))
 have hgb : i <= g /\ g <= l.length := by rw [<- hgap]; exact gap_le hi
 have k0 : (0 : Int) <= (g : Int) := by omega
 have k1 : (g : Int) <= (l.length : Int) := by omega
 obtain ⟨x0, x1, x2, x3, f0, f1, f2, f3⟩ := RowAt.four HX.out
 have hbl := HX.out.lt
 obtain ⟨⟨a0, a1, a2, a3, a4, a5⟩, p0, p1, p2, p3, p4, p5⟩ := row6 HT.out
 have hlt := HT.out.inside
 clear h hgap
 go_enter Tryz.func25, Tryz.ntmps25
 go_wp2_with (go_at_call 43; (with_reducible refine (BL.out _ ?_).mono ?_); (exact HX.out); rintro e w1 ⟨rfl, hx1, hg1⟩; have HX1 := hid hx1; have HT1 := hid (RowAt.grows HT.out (by simp [TokZ]) hg1 (Ne.symm hn0)); have HG1 := hid (grownR_trans HG.out hg1); clear hx1 hg1 HX HT HG; have HX := HX1; have HT := HT1; have HG := HG1; clear HX1 HT1 HG1; clear x0 x1 x2 x3 f0 f1 f2 f3 hbl a0 a1 a2 a3 a4 a5 p0 p1 p2 p3 p4 p5 hlt; obtain ⟨x0, x1, x2, x3, f0, f1, f2, f3⟩ := RowAt.four HX.out; have hbl := HX.out.lt; obtain ⟨⟨a0, a1, a2, a3, a4, a5⟩, p0, p1, p2, p3, p4, p5⟩ := row6 HT.out; have hlt := HT.out.inside)
 go_quiet (fail)
 go_wp2_with (go_at_call 44; (refine (FC.out _ (HX.out.drewN _)).mono ?_); rintro e w4 ⟨v, v2, rfl, hx4, he4, hf4, hg4⟩; have HT4 := hid (RowAt.grows (rowN HT.out _) (by simp [TokZ]) hg4 (Ne.symm hn0)); replace hx4 := hid hx4; have HE4 := hid he4; have HF4 := hid hf4; replace hg4 := hid hg4; clear he4 hf4; clear x0 x1 x2 x3 f0 f1 f2 f3 hbl a0 a1 a2 a3 a4 a5 p0 p1 p2 p3 p4 p5 hlt; obtain ⟨⟨a0, a1, a2, a3, a4, a5⟩, p0, p1, p2, p3, p4, p5⟩ := row6 HT4.out; have hlt := HT4.out.inside; unfold tokV)
 refine fail_from (s := 2) (s' := 3) rfl (grown_drewN HG.out _) (Nat.le_refl _) hn0 (rowN HT.out _) rfl ⟨_, rfl⟩ hx4.out HE4.out HF4.out hg4.out ?_ ?_ <;> rfl
theorem grown_drew1 {w W : World} {r : Option Nat} (h : w.grownBy W r) : w.grownBy W.drew r := ⟨h.os, h.tape, h.output, h.size, h.block⟩
theorem below_grown3 {w u v x : World} {r : Option Nat} (h : w.grownBy u r) (h1 : Below u.heap.size u v) (h2 : Below v.heap.size v x) : w.grownBy x r := grownL_below (grownL_below h h1) h2
def putTk (W : World) (g : Nat) (k : Int) (x y z : ByteArray) (a f p n : Int) : World := ((six W g k x y z a f).setCell ⟨g + 1, 0, none⟩ (.int .i64 p)).setCell ⟨g + 1, 1, none⟩ (.int .i64 n)
theorem putTk_row {W : World} {g B : Nat} {vs : List Value} (h : RowAt W B vs) (h0 : ¬ B = g) (h1 : ¬ B = g + 1) (k : Int) (x y z : ByteArray) (a f p n : Int) : RowAt (putTk W g k x y z a f p n) B vs := (((six_other h h0 k x y z a f).other h1 (.int .i64 p)).other h1 (.int .i64 n))
theorem putTk_grown {w W : World} {r : Option Nat} {g : Nat} (h : w.grownBy W r) (hg : w.heap.size <= g) (k : Int) (x y z : ByteArray) (a f p n : Int) : w.grownBy (putTk W g k x y z a f p n) r := grown_set (grown_set (six_grown h hg k x y z a f) (Nat.le_succ_of_le hg) _) (Nat.le_succ_of_le hg) _
theorem putTk_tok {W : World} {g : Nat} (h : TkAt W g) (k : Int) (x y z : ByteArray) (a f p n : Int) : RowAt (putTk W g k x y z a f p n) g [.int .i64 k, .string x, .string y, .string z, .int .i64 a, .int .i64 f] := by
 have R : RowAt W g TokZ := fun j hj => by
  have hj6 : j = 0 \/ j = 1 \/ j = 2 \/ j = 3 \/ j = 4 \/ j = 5 := by simp [TokZ] at hj; omega
  rcases hj6 with rfl | rfl | rfl | rfl | rfl | rfl
  ·exact ⟨h.a0, h.f0⟩
  ·exact ⟨h.a1, h.f1⟩
  ·exact ⟨h.a2, h.f2⟩
  ·exact ⟨h.a3, h.f3⟩
  ·exact ⟨h.a4, h.f4⟩
  ·exact ⟨h.a5, h.f5⟩
 have hne : g ≠ g + 1 := by omega
 exact ((six_row R rfl k x y z a f).other hne (.int .i64 p)).other hne (.int .i64 n)
set_option maxHeartbeats 3200000 in
theorem lexNext_err (l : List UInt8) (bad : Int) (i g : Nat) (b : Nat) (w : World) (h : LexAt w b l bad i .nilIface) (hi : i <= l.length) (hl : l.length <= 4194304) (hgap : gapF l i = g) (hTM : ∀ u, w.grownBy u (some b) -> TabAt u /\ MaxAt u) (hge : g < l.length) (p : Nat) (N : Int) (hN : 0 < N) (ht : tokG l g = .inr (p, N)) (q : Nat × Int) (FCh : ∀ u : World, LexAt u b l bad g .nilIface -> Calls Tryz.prog 44 #[.pointer (some ⟨b, 0, none⟩), .agg #[.int .i64 (p : Int), .int .i64 N]] u (FailPost u b l bad g q)) :
  Calls Tryz.prog 25 #[.pointer (some ⟨b, 0, none⟩)] w (FailPost w b l bad g q) := by
 have y1 : ((g : Int) == (l.length : Int)) = false := beq_eq_false_iff_ne.2 (by omega)
 have y2 : (N == 0) = false := beq_eq_false_iff_ne.2 (by omega)
 have FC := hid FCh
 clear FCh
 have TK := hid (fun (u : World) (hx : LexAt u b l bad g .nilIface) (hg : w.grownBy u (some b)) => ht ▸ lexToken_l l bad g .nilIface b u hx (by omega) hl (hTM u hg).1 (hTM u hg).2)
 clear hge ht hTM hN
 obtain ⟨W, hW⟩ : ∃ W, w.alloc (.cells #[.int .i64 0, .string ⟨#[]⟩, .string ⟨#[]⟩, .string ⟨#[]⟩, .int .i64 0, .int .i64 0] 50) = W := ⟨_, rfl⟩
 have HB0 : Hid (Below w.heap.size w W) := hid (by rw [<- hW]; exact (Below.refl _ _).alloc (Nat.le_refl _) _)
 have HT : Hid (RowAt W w.heap.size TokZ) := hid (by rw [<- hW]; exact one_new w)
 have HX := hid (h.below HB0.out)
 have hn0 : ¬ b = w.heap.size := by have := h.lt; omega
 have HG : Hid (w.grownBy W (some b)) := hid (below_grown HB0.out _)
 have BL := hid (fun (u : World) (hx : LexAt u b l bad i .nilIface) => hgap ▸ lexBlanks_l l bad i .nilIface b u hx hi (by omega))
 have hgb : i <= g /\ g <= l.length := by rw [<- hgap]; exact gap_le hi
 have k0 : (0 : Int) <= (g : Int) := by omega
 have k1 : (g : Int) <= (l.length : Int) := by omega
 obtain ⟨x0, x1, x2, x3, f0, f1, f2, f3⟩ := RowAt.four HX.out
 have hbl := HX.out.lt
 obtain ⟨⟨a0, a1, a2, a3, a4, a5⟩, p0, p1, p2, p3, p4, p5⟩ := row6 HT.out
 have hlt := HT.out.inside
 clear h hgap
 go_enter Tryz.func25, Tryz.ntmps25
 go_wp2_with (go_at_call 43; (with_reducible refine (BL.out _ ?_).mono ?_); (exact HX.out); rintro e w1 ⟨rfl, hx1, hg1⟩; have HX1 := hid hx1; have HT1 := hid (RowAt.grows HT.out (by simp [TokZ]) hg1 (Ne.symm hn0)); have HG1 := hid (grownR_trans HG.out hg1); clear hx1 hg1 HX HT HG; have HX := HX1; have HT := HT1; have HG := HG1; clear HX1 HT1 HG1; clear x0 x1 x2 x3 f0 f1 f2 f3 hbl a0 a1 a2 a3 a4 a5 p0 p1 p2 p3 p4 p5 hlt; obtain ⟨x0, x1, x2, x3, f0, f1, f2, f3⟩ := RowAt.four HX.out; have hbl := HX.out.lt; obtain ⟨⟨a0, a1, a2, a3, a4, a5⟩, p0, p1, p2, p3, p4, p5⟩ := row6 HT.out; have hlt := HT.out.inside)
 go_quiet (fail)
 go_wp2_with fail
 (with_reducible refine (TK.out _ ?_ ?_).mono ?_)
 (exact HX.out.drewN _)
 (exact grown_drewN HG.out _)
 rintro e w2 ⟨he, hb⟩
 obtain ⟨k, x, y, z, a, f, rfl⟩ := he
 unfold tokV
 have hb1 := hb
 have HT1 := RowAt.below (rowN HT.out _) hb (by have := HT.out.inside; simpa using this)
 obtain ⟨W2, hW2⟩ : ∃ W2, (w2.alloc (.cells #[.int .i64 0, .string ⟨#[]⟩, .string ⟨#[]⟩, .string ⟨#[]⟩, .int .i64 0, .int .i64 0] 50)).alloc (.cells #[.int .i64 0, .int .i64 0] 111) = W2 := ⟨_, rfl⟩
 have HB2 : Hid (Below w2.heap.size w2 W2) := hid (by rw [<- hW2]; exact ((Below.refl _ _).alloc (Nat.le_refl _) _).alloc (by simp) _)
 have HK : Hid (TkAt W2 w2.heap.size) := hid (by rw [<- hW2]; exact tkAt_of (tk_new w2).1 (tk_new w2).2)
 have HX1 := (LexAt.below (HX.out.drewN _) hb)
 have HX2 := hid (HX1.below HB2.out)
 have HG2 := hid (below_grown3 (grown_drewN HG.out _) hb HB2.out)
 have HT2 := hid (RowAt.below HT1 HB2.out HT1.inside)
 have hm0 : ¬ b = w2.heap.size := by (have := HX1.lt; omega)
 have hm1 : ¬ b = w2.heap.size + 1 := by (have := HX1.lt; omega)
 have hm2 : ¬ w.heap.size = w2.heap.size := by (have := HT1.inside; omega)
 have hm3 : ¬ w.heap.size = w2.heap.size + 1 := by (have := HT1.inside; omega)
 have hm4 : w.heap.size <= w2.heap.size := by (have := HT1.inside; omega)
 clear HX1 HT1 hb hb1 HX HT HG
 have HX := HX2
 have HT := HT2
 have HG := HG2
 clear HX2 HT2 HG2
 clear x0 x1 x2 x3 f0 f1 f2 f3 hbl a0 a1 a2 a3 a4 a5 p0 p1 p2 p3 p4 p5 hlt
 obtain ⟨x0, x1, x2, x3, f0, f1, f2, f3⟩ := RowAt.four HX.out
 have hbl := HX.out.lt
 obtain ⟨⟨a0, a1, a2, a3, a4, a5⟩, p0, p1, p2, p3, p4, p5⟩ := row6 HT.out
 have hlt := HT.out.inside
 obtain ⟨c0, c1, c2, c3, c4, c5, r0, r1, r2, r3, r4, r5, d0, d1, e0, e1, hkl⟩ := HK.out
 have hkl0 := Nat.lt_of_succ_lt hkl
 go_wp2_with fail
 (refine (FC.out _ (putTk_row HX.out hm0 hm1 k x y z a f p N)).mono ?_)
 rintro e w4 ⟨v, v2, rfl, hx4, he4, hf4, hg4⟩
 have HT4 := hid (RowAt.grows (putTk_row HT.out hm2 hm3 k x y z a f p N) (by simp [TokZ]) hg4 (Ne.symm hn0))
 replace hx4 := hid hx4
 have HE4 := hid he4
 have HF4 := hid hf4
 replace hg4 := hid hg4
 clear he4 hf4
 clear x0 x1 x2 x3 f0 f1 f2 f3 hbl a0 a1 a2 a3 a4 a5 p0 p1 p2 p3 p4 p5 hlt
 obtain ⟨⟨a0, a1, a2, a3, a4, a5⟩, p0, p1, p2, p3, p4, p5⟩ := row6 HT4.out
 have hlt := HT4.out.inside
 unfold tokV
 go_wp2_with fail
 refine fail_from (u := putTk W2 w2.heap.size k x y z a f (p : Int) N) (s := 2) (s' := 3) rfl (putTk_grown HG.out hm4 k x y z a f p N) (Nat.le_refl _) hn0 (putTk_row HT.out hm2 hm3 k x y z a f p N) rfl ⟨_, rfl⟩ hx4.out HE4.out HF4.out hg4.out ?_ ?_ <;> rfl
set_option maxHeartbeats 6400000 in
theorem lexNext_long (l : List UInt8) (bad : Int) (i g : Nat) (b : Nat) (w : World) (h : LexAt w b l bad i .nilIface) (hi : i <= l.length) (hl : l.length <= 4194304) (hgap : gapF l i = g) (hTM : ∀ u, w.grownBy u (some b) -> TabAt u /\ MaxAt u) (hge : g < l.length) (K : Int) (X Y Z : List UInt8) (d m : Nat) (hdm : (d : Int) + (g : Int) = (m : Int)) (hml : m <= l.length) (ht : tokG l g = .inl ⟨K, X, Y, Z, (g : Nat), (m : Nat)⟩) (hlong : 65536 < X.length \/ 65536 < Y.length) (q : Nat × Int) (FCh : ∀ u : World, LexAt u b l bad g .nilIface -> Calls Tryz.prog 44 #[.pointer (some ⟨b, 0, none⟩), .agg #[.int .i64 (g : Int), .int .i64 2]] u (FailPost u b l bad g q)) :
  Calls Tryz.prog 25 #[.pointer (some ⟨b, 0, none⟩)] w (FailPost w b l bad g q) := by
 have FC := hid FCh
 clear FCh
 obtain ⟨xl, hxl⟩ : ∃ xl, decide ((65536 : Int) < (X.length : Int)) = xl := ⟨_, rfl⟩
 have hyl : xl = false -> decide ((65536 : Int) < (Y.length : Int)) = true := fun e => by
  rw [e] at hxl
  have := of_decide_eq_false hxl
  exact decide_eq_true (by omega)
 clear hlong
 have y1 : ((g : Int) == (l.length : Int)) = false := beq_eq_false_iff_ne.2 (by omega)
 have WF : IntKind.i64.wrap ((d : Int) + (g : Int)) = (m : Int) := by rw [hdm]; exact IntWalk.i64_in _ (by omega)
 have TK := hid (fun (u : World) (hx : LexAt u b l bad g .nilIface) (hg : w.grownBy u (some b)) => ht ▸ lexToken_l l bad g .nilIface b u hx (by omega) hl (hTM u hg).1 (hTM u hg).2)
 simp only [TokRet] at TK
 rw [show ((⟨K, X, Y, Z, (g : Nat), (m : Nat)⟩ : TokL).fin - (g : Int)) = (d : Int) from by show (m : Int) - (g : Int) = d; omega] at TK
 clear hge ht hTM
 obtain ⟨W, hW⟩ : ∃ W, w.alloc (.cells #[.int .i64 0, .string ⟨#[]⟩, .string ⟨#[]⟩, .string ⟨#[]⟩, .int .i64 0, .int .i64 0] 50) = W := ⟨_, rfl⟩
 have HB0 : Hid (Below w.heap.size w W) := hid (by rw [<- hW]; exact (Below.refl _ _).alloc (Nat.le_refl _) _)
 have HT : Hid (RowAt W w.heap.size TokZ) := hid (by rw [<- hW]; exact one_new w)
 have HX := hid (h.below HB0.out)
 have hn0 : ¬ b = w.heap.size := by have := h.lt; omega
 have HG : Hid (w.grownBy W (some b)) := hid (below_grown HB0.out _)
 have BL := hid (fun (u : World) (hx : LexAt u b l bad i .nilIface) => hgap ▸ lexBlanks_l l bad i .nilIface b u hx hi (by omega))
 have hgb : i <= g /\ g <= l.length := by rw [<- hgap]; exact gap_le hi
 have k0 : (0 : Int) <= (g : Int) := by omega
 have k1 : (g : Int) <= (l.length : Int) := by omega
 obtain ⟨x0, x1, x2, x3, f0, f1, f2, f3⟩ := RowAt.four HX.out
 have hbl := HX.out.lt
 obtain ⟨⟨a0, a1, a2, a3, a4, a5⟩, p0, p1, p2, p3, p4, p5⟩ := row6 HT.out
 have hlt := HT.out.inside
 clear h hgap
 go_enter Tryz.func25, Tryz.ntmps25
 go_wp2_with (go_at_call 43; (with_reducible refine (BL.out _ ?_).mono ?_); (exact HX.out); rintro e w1 ⟨rfl, hx1, hg1⟩; have HX1 := hid hx1; have HT1 := hid (RowAt.grows HT.out (by simp [TokZ]) hg1 (Ne.symm hn0)); have HG1 := hid (grownR_trans HG.out hg1); clear hx1 hg1 HX HT HG; have HX := HX1; have HT := HT1; have HG := HG1; clear HX1 HT1 HG1; clear x0 x1 x2 x3 f0 f1 f2 f3 hbl a0 a1 a2 a3 a4 a5 p0 p1 p2 p3 p4 p5 hlt; obtain ⟨x0, x1, x2, x3, f0, f1, f2, f3⟩ := RowAt.four HX.out; have hbl := HX.out.lt; obtain ⟨⟨a0, a1, a2, a3, a4, a5⟩, p0, p1, p2, p3, p4, p5⟩ := row6 HT.out; have hlt := HT.out.inside)
 go_quiet (fail)
 go_wp2_with fail
 (with_reducible refine (TK.out _ ?_ ?_).mono ?_)
 (exact HX.out.drewN _)
 (exact grown_drewN HG.out _)
 rintro e w2 ⟨he, hb⟩
 subst he
 unfold tokV
 have hb1 := hb
 have HT1 := RowAt.below (rowN HT.out _) hb (by have := HT.out.inside; simpa using this)
 obtain ⟨W2, hW2⟩ : ∃ W2, (w2.alloc (.cells #[.int .i64 0, .string ⟨#[]⟩, .string ⟨#[]⟩, .string ⟨#[]⟩, .int .i64 0, .int .i64 0] 50)).alloc (.cells #[.int .i64 0, .int .i64 0] 111) = W2 := ⟨_, rfl⟩
 have HB2 : Hid (Below w2.heap.size w2 W2) := hid (by rw [<- hW2]; exact ((Below.refl _ _).alloc (Nat.le_refl _) _).alloc (by simp) _)
 have HK : Hid (TkAt W2 w2.heap.size) := hid (by rw [<- hW2]; exact tkAt_of (tk_new w2).1 (tk_new w2).2)
 have HX1 := (LexAt.below (HX.out.drewN _) hb)
 have HX2 := hid (HX1.below HB2.out)
 have HG2 := hid (below_grown3 (grown_drewN HG.out _) hb HB2.out)
 have HT2 := hid (RowAt.below HT1 HB2.out HT1.inside)
 have hm0 : ¬ b = w2.heap.size := by (have := HX1.lt; omega)
 have hm1 : ¬ b = w2.heap.size + 1 := by (have := HX1.lt; omega)
 have hm2 : ¬ w.heap.size = w2.heap.size := by (have := HT1.inside; omega)
 have hm3 : ¬ w.heap.size = w2.heap.size + 1 := by (have := HT1.inside; omega)
 have hm4 : w.heap.size <= w2.heap.size := by (have := HT1.inside; omega)
 clear HX1 HT1 hb hb1 HX HT HG
 have HX := HX2
 have HT := HT2
 have HG := HG2
 clear HX2 HT2 HG2
 clear x0 x1 x2 x3 f0 f1 f2 f3 hbl a0 a1 a2 a3 a4 a5 p0 p1 p2 p3 p4 p5 hlt
 obtain ⟨x0, x1, x2, x3, f0, f1, f2, f3⟩ := RowAt.four HX.out
 have hbl := HX.out.lt
 obtain ⟨⟨a0, a1, a2, a3, a4, a5⟩, p0, p1, p2, p3, p4, p5⟩ := row6 HT.out
 have hlt := HT.out.inside
 obtain ⟨c0, c1, c2, c3, c4, c5, r0, r1, r2, r3, r4, r5, d0, d1, e0, e1, hkl⟩ := HK.out
 have hkl0 := Nat.lt_of_succ_lt hkl
 go_wp2_with fail
 have RB := hid (putTk_row HX.out hm0 hm1 K (B X) (B Y) (B Z) 0 (d : Int) 0 0)
 have RT := hid (putTk_row HT.out hm2 hm3 K (B X) (B Y) (B Z) 0 (d : Int) 0 0)
 have RK := hid (putTk_tok HK.out K (B X) (B Y) (B Z) 0 (d : Int) 0 0)
 have RG := hid (putTk_grown HG.out hm4 K (B X) (B Y) (B Z) 0 (d : Int) 0 0)
 show Code.wp _ _ _ _ (putTk W2 w2.heap.size K (B X) (B Y) (B Z) 0 (d : Int) 0 0)
 generalize putTk W2 w2.heap.size K (B X) (B Y) (B Z) 0 (d : Int) 0 0 = W3 at RB RT RK RG ⊢
 clear HX HT HG HK HB2 hW2 TK BL HB0 hW x0 x1 x2 x3 f0 f1 f2 f3 hbl a0 a1 a2 a3 a4 a5 p0 p1 p2 p3 p4 p5 hlt c0 c1 c2 c3 c4 c5 r0 r1 r2 r3 r4 r5 d0 d1 e0 e1 hkl hkl0
 obtain ⟨x0, x1, x2, x3, f0, f1, f2, f3⟩ := RowAt.four RB.out
 have hbl := RowAt.inside RB.out
 obtain ⟨⟨a0, a1, a2, a3, a4, a5⟩, p0, p1, p2, p3, p4, p5⟩ := row6 RT.out
 have hlt := RT.out.inside
 obtain ⟨⟨c0, c1, c2, c3, c4, c5⟩, r0, r1, r2, r3, r4, r5⟩ := row6 RK.out
 have hkl := RK.out.inside
 go_region
 cases xl
 ·have y3 := hyl rfl
  go_wp2_with fail
  (refine (FC.out _ (RowAt.drew ((RB.out.other hm0 _).other hm0 _))).mono ?_)
  rintro e w4 ⟨v, v2, rfl, hx4, he4, hf4, hg4⟩
  have HT4 := hid (RowAt.grows (RowAt.drew ((RT.out.other hm2 _).other hm2 _)) (by simp [TokZ]) hg4 (Ne.symm hn0))
  replace hx4 := hid hx4
  have HE4 := hid he4
  have HF4 := hid hf4
  replace hg4 := hid hg4
  clear he4 hf4
  clear x0 x1 x2 x3 f0 f1 f2 f3 hbl a0 a1 a2 a3 a4 a5 p0 p1 p2 p3 p4 p5 hlt
  obtain ⟨⟨a0, a1, a2, a3, a4, a5⟩, p0, p1, p2, p3, p4, p5⟩ := row6 HT4.out
  have hlt := HT4.out.inside
  unfold tokV
  go_wp2_with fail
  refine fail_from (s := 2) (s' := 3) rfl (grown_drew1 (grown_set (grown_set RG.out hm4 _) hm4 _)) (Nat.le_refl _) hn0 (RowAt.drew ((RT.out.other hm2 _).other hm2 _)) rfl ⟨_, rfl⟩ hx4.out HE4.out HF4.out hg4.out ?_ ?_ <;> rfl
 ·go_wp2_with fail
  (refine (FC.out _ (RowAt.drew ((RB.out.other hm0 _).other hm0 _))).mono ?_)
  rintro e w4 ⟨v, v2, rfl, hx4, he4, hf4, hg4⟩
  have HT4 := hid (RowAt.grows (RowAt.drew ((RT.out.other hm2 _).other hm2 _)) (by simp [TokZ]) hg4 (Ne.symm hn0))
  replace hx4 := hid hx4
  have HE4 := hid he4
  have HF4 := hid hf4
  replace hg4 := hid hg4
  clear he4 hf4
  clear x0 x1 x2 x3 f0 f1 f2 f3 hbl a0 a1 a2 a3 a4 a5 p0 p1 p2 p3 p4 p5 hlt
  obtain ⟨⟨a0, a1, a2, a3, a4, a5⟩, p0, p1, p2, p3, p4, p5⟩ := row6 HT4.out
  have hlt := HT4.out.inside
  unfold tokV
  go_wp2_with fail
  refine fail_from (s := 2) (s' := 3) rfl (grown_drew1 (grown_set (grown_set RG.out hm4 _) hm4 _)) (Nat.le_refl _) hn0 (RowAt.drew ((RT.out.other hm2 _).other hm2 _)) rfl ⟨_, rfl⟩ hx4.out HE4.out HF4.out hg4.out ?_ ?_ <;> rfl
set_option maxHeartbeats 6400000 in
theorem lexNext_tok (l : List UInt8) (bad : Int) (i g : Nat) (b : Nat) (w : World) (h : LexAt w b l bad i .nilIface) (hi : i <= l.length) (hl : l.length <= 4194304) (hgap : gapF l i = g) (hTM : ∀ u, w.grownBy u (some b) -> TabAt u /\ MaxAt u) (hge : g < l.length) (K : Int) (X Y Z : List UInt8) (d m : Nat) (hdm : (d : Int) + (g : Int) = (m : Int)) (hml : m <= l.length) (ht : tokG l g = .inl ⟨K, X, Y, Z, (g : Nat), (m : Nat)⟩) (h1 : X.length <= 65536) (h2 : Y.length <= 65536) :
  Calls Tryz.prog 25 #[.pointer (some ⟨b, 0, none⟩)] w (TokPost w b l bad ⟨K, X, Y, Z, (g : Nat), (m : Nat)⟩) := by
 have y2 : decide ((65536 : Int) < (X.length : Int)) = false := decide_eq_false (by omega)
 have y3 : decide ((65536 : Int) < (Y.length : Int)) = false := decide_eq_false (by omega)
 have y1 : ((g : Int) == (l.length : Int)) = false := beq_eq_false_iff_ne.2 (by omega)
 have WF : IntKind.i64.wrap ((d : Int) + (g : Int)) = (m : Int) := by rw [hdm]; exact IntWalk.i64_in _ (by omega)
 have TK := hid (fun (u : World) (hx : LexAt u b l bad g .nilIface) (hg : w.grownBy u (some b)) => ht ▸ lexToken_l l bad g .nilIface b u hx (by omega) hl (hTM u hg).1 (hTM u hg).2)
 simp only [TokRet] at TK
 rw [show ((⟨K, X, Y, Z, (g : Nat), (m : Nat)⟩ : TokL).fin - (g : Int)) = (d : Int) from by show (m : Int) - (g : Int) = d; omega] at TK
 clear hge ht hTM
 obtain ⟨W, hW⟩ : ∃ W, w.alloc (.cells #[.int .i64 0, .string ⟨#[]⟩, .string ⟨#[]⟩, .string ⟨#[]⟩, .int .i64 0, .int .i64 0] 50) = W := ⟨_, rfl⟩
 have HB0 : Hid (Below w.heap.size w W) := hid (by rw [<- hW]; exact (Below.refl _ _).alloc (Nat.le_refl _) _)
 have HT : Hid (RowAt W w.heap.size TokZ) := hid (by rw [<- hW]; exact one_new w)
 have HX := hid (h.below HB0.out)
 have hn0 : ¬ b = w.heap.size := by have := h.lt; omega
 have HG : Hid (w.grownBy W (some b)) := hid (below_grown HB0.out _)
 have BL := hid (fun (u : World) (hx : LexAt u b l bad i .nilIface) => hgap ▸ lexBlanks_l l bad i .nilIface b u hx hi (by omega))
 have hgb : i <= g /\ g <= l.length := by rw [<- hgap]; exact gap_le hi
 have k0 : (0 : Int) <= (g : Int) := by omega
 have k1 : (g : Int) <= (l.length : Int) := by omega
 obtain ⟨x0, x1, x2, x3, f0, f1, f2, f3⟩ := RowAt.four HX.out
 have hbl := HX.out.lt
 obtain ⟨⟨a0, a1, a2, a3, a4, a5⟩, p0, p1, p2, p3, p4, p5⟩ := row6 HT.out
 have hlt := HT.out.inside
 clear h hgap
 go_enter Tryz.func25, Tryz.ntmps25
 go_wp2_with (go_at_call 43; (with_reducible refine (BL.out _ ?_).mono ?_); (exact HX.out); rintro e w1 ⟨rfl, hx1, hg1⟩; have HX1 := hid hx1; have HT1 := hid (RowAt.grows HT.out (by simp [TokZ]) hg1 (Ne.symm hn0)); have HG1 := hid (grownR_trans HG.out hg1); clear hx1 hg1 HX HT HG; have HX := HX1; have HT := HT1; have HG := HG1; clear HX1 HT1 HG1; clear x0 x1 x2 x3 f0 f1 f2 f3 hbl a0 a1 a2 a3 a4 a5 p0 p1 p2 p3 p4 p5 hlt; obtain ⟨x0, x1, x2, x3, f0, f1, f2, f3⟩ := RowAt.four HX.out; have hbl := HX.out.lt; obtain ⟨⟨a0, a1, a2, a3, a4, a5⟩, p0, p1, p2, p3, p4, p5⟩ := row6 HT.out; have hlt := HT.out.inside)
 go_quiet (fail)
 go_wp2_with fail
 (with_reducible refine (TK.out _ ?_ ?_).mono ?_)
 (exact HX.out.drewN _)
 (exact grown_drewN HG.out _)
 rintro e w2 ⟨he, hb⟩
 subst he
 unfold tokV
 have hb1 := hb
 have HT1 := RowAt.below (rowN HT.out _) hb (by have := HT.out.inside; simpa using this)
 obtain ⟨W2, hW2⟩ : ∃ W2, (w2.alloc (.cells #[.int .i64 0, .string ⟨#[]⟩, .string ⟨#[]⟩, .string ⟨#[]⟩, .int .i64 0, .int .i64 0] 50)).alloc (.cells #[.int .i64 0, .int .i64 0] 111) = W2 := ⟨_, rfl⟩
 have HB2 : Hid (Below w2.heap.size w2 W2) := hid (by rw [<- hW2]; exact ((Below.refl _ _).alloc (Nat.le_refl _) _).alloc (by simp) _)
 have HK : Hid (TkAt W2 w2.heap.size) := hid (by rw [<- hW2]; exact tkAt_of (tk_new w2).1 (tk_new w2).2)
 have HX1 := (LexAt.below (HX.out.drewN _) hb)
 have HX2 := hid (HX1.below HB2.out)
 have HG2 := hid (below_grown3 (grown_drewN HG.out _) hb HB2.out)
 have HT2 := hid (RowAt.below HT1 HB2.out HT1.inside)
 have hm0 : ¬ b = w2.heap.size := by (have := HX1.lt; omega)
 have hm1 : ¬ b = w2.heap.size + 1 := by (have := HX1.lt; omega)
 have hm2 : ¬ w.heap.size = w2.heap.size := by (have := HT1.inside; omega)
 have hm3 : ¬ w.heap.size = w2.heap.size + 1 := by (have := HT1.inside; omega)
 have hm4 : w.heap.size <= w2.heap.size := by (have := HT1.inside; omega)
 clear HX1 HT1 hb hb1 HX HT HG
 have HX := HX2
 have HT := HT2
 have HG := HG2
 clear HX2 HT2 HG2
 clear x0 x1 x2 x3 f0 f1 f2 f3 hbl a0 a1 a2 a3 a4 a5 p0 p1 p2 p3 p4 p5 hlt
 obtain ⟨x0, x1, x2, x3, f0, f1, f2, f3⟩ := RowAt.four HX.out
 have hbl := HX.out.lt
 obtain ⟨⟨a0, a1, a2, a3, a4, a5⟩, p0, p1, p2, p3, p4, p5⟩ := row6 HT.out
 have hlt := HT.out.inside
 obtain ⟨c0, c1, c2, c3, c4, c5, r0, r1, r2, r3, r4, r5, d0, d1, e0, e1, hkl⟩ := HK.out
 have hkl0 := Nat.lt_of_succ_lt hkl
 go_wp2_with fail
 have RB := hid (putTk_row HX.out hm0 hm1 K (B X) (B Y) (B Z) 0 (d : Int) 0 0)
 have RT := hid (putTk_row HT.out hm2 hm3 K (B X) (B Y) (B Z) 0 (d : Int) 0 0)
 have RK := hid (putTk_tok HK.out K (B X) (B Y) (B Z) 0 (d : Int) 0 0)
 have RG := hid (putTk_grown HG.out hm4 K (B X) (B Y) (B Z) 0 (d : Int) 0 0)
 show Code.wp _ _ _ _ (putTk W2 w2.heap.size K (B X) (B Y) (B Z) 0 (d : Int) 0 0)
 generalize putTk W2 w2.heap.size K (B X) (B Y) (B Z) 0 (d : Int) 0 0 = W3 at RB RT RK RG ⊢
 clear HX HT HG HK HB2 hW2 TK BL HB0 hW x0 x1 x2 x3 f0 f1 f2 f3 hbl a0 a1 a2 a3 a4 a5 p0 p1 p2 p3 p4 p5 hlt c0 c1 c2 c3 c4 c5 r0 r1 r2 r3 r4 r5 d0 d1 e0 e1 hkl hkl0
 obtain ⟨x0, x1, x2, x3, f0, f1, f2, f3⟩ := RowAt.four RB.out
 have hbl := RowAt.inside RB.out
 obtain ⟨⟨a0, a1, a2, a3, a4, a5⟩, p0, p1, p2, p3, p4, p5⟩ := row6 RT.out
 have hlt := RT.out.inside
 obtain ⟨⟨c0, c1, c2, c3, c4, c5⟩, r0, r1, r2, r3, r4, r5⟩ := row6 RK.out
 have hkl := RK.out.inside
 go_region
 all_goals (go_wp2_with fail)
 all_goals exact next_core (t := ⟨K, X, Y, Z, (g : Nat), (m : Nat)⟩) rfl (RowAt.drew (six_row (((RT.out.other hm2 _).other hm2 _).other (Ne.symm hn0) _) rfl _ _ _ _ _ _)) (RowAt.drew (six_lex (LexAt.to (i := g) ((RB.out.other hm0 _).other hm0 _) m) hn0 _ _ _ _ _ _)) (grown_drew1 (six_grown (grownR_trans (grown_set (grown_set RG.out hm4 _) hm4 _) (grownBy_setCell1 _ b 2 _)) (Nat.le_refl _) _ _ _ _ _ _)) rfl rfl rfl
end Go.Proofs.YtdhmpakhdhdebaaGreatDoor
namespace Go.Proofs.YtdhmpakhdhdebaaGreatDoor
open Go.Lib (hid)
open Go.RowKit
set_option maxRecDepth 100000
def badV (l : List UInt8) (less : Bool) : Int := if less = true then (l.length : Int) else -1
def failQ (l : List UInt8) (less : Bool) (p : Nat) (N : Int) : Nat × Int := if less = true /\ p = l.length then (l.length, 40) else (p, N)
theorem lexFail_l (l : List UInt8) (less : Bool) (i : Nat) (ev : Value) (b : Nat) (p : Nat) (N : Int) (hp : p <= l.length) (u : World) (h : LexAt u b l (badV l less) i ev) :
  Calls Tryz.prog 44 #[.pointer (some ⟨b, 0, none⟩), .agg #[.int .i64 (p : Int), .int .i64 N]] u (FailPost u b l (badV l less) i (failQ l less p N)) := by
 obtain ⟨d2, h2⟩ : ∃ d2, decide (badV l less <= (p : Int)) = d2 := ⟨_, rfl⟩
 have e1 : decide ((0 : Int) <= badV l less) = less := by
  unfold badV
  cases less with
  | true => rw [if_pos rfl]; exact decide_eq_true (by omega)
  | false => rw [if_neg (by simp)]; exact decide_eq_false (by omega)
 have := lexFail_c l (badV l less) i ev b u p (failQ l less p N).1 N (failQ l less p N).2 h less d2 e1 h2 (hid (by
  unfold badV at h2 ⊢
  unfold failQ
  cases less with
  | false => rw [if_neg (by simp), if_neg (by simp)]; exact ⟨rfl, rfl⟩
  | true =>
   rw [if_pos rfl] at h2 ⊢
   by_cases hpl : p = l.length
   ·have hd2 : d2 = true := by rw [<- h2]; exact decide_eq_true (by omega)
    have e : (if true = true /\ p = l.length then (l.length, (40 : Int)) else (p, N)) = (l.length, 40) := if_pos ⟨rfl, hpl⟩
    rw [e, if_pos ⟨rfl, hd2⟩]
    exact ⟨rfl, rfl⟩
   ·have hd2 : ¬ d2 = true := fun x => by rw [<- h2] at x; have := of_decide_eq_true x; omega
    have e : (if true = true /\ p = l.length then (l.length, (40 : Int)) else (p, N)) = (p, N) := if_neg (fun x => hpl x.2)
    rw [e, if_neg (fun x => hd2 x.2)]
    exact ⟨rfl, rfl⟩))
 exact this
def NextPost (w : World) (b : Nat) (l : List UInt8) (less : Bool) (i : Nat) (e : Ending) (w' : World) : Prop :=
 (∃ t, stepG l less i = .inl t /\ TokPost w b l (badV l less) t e w') \/ (∃ q j, stepG l less i = .inr q /\ FailPost w b l (badV l less) j q e w')
theorem lexNext_l (l : List UInt8) (less : Bool) (i b : Nat) (w : World) (h : LexAt w b l (badV l less) i .nilIface) (hi : i <= l.length) (hl : l.length <= 4194304) (hTM : ∀ u, w.grownBy u (some b) -> TabAt u /\ MaxAt u) :
  Calls Tryz.prog 25 #[.pointer (some ⟨b, 0, none⟩)] w (NextPost w b l less i) := by
 have hg := gap_le hi
 obtain ⟨g, hgap⟩ : ∃ g, gapF l i = g := ⟨_, rfl⟩
 rw [hgap] at hg
 by_cases hge : g = l.length
 ·have hn : nextG l i = .inl ⟨0, [], [], [], (g : Nat), (g : Nat)⟩ := by unfold nextG; rw [hgap, if_pos hge]
  cases less with
  | false =>
   have hs : stepG l false i = .inl ⟨0, [], [], [], (g : Nat), (g : Nat)⟩ := by unfold stepG; rw [hn]; simp
   exact (lexNext_end l _ i g b w h hi hl hgap hge (by unfold badV; rw [if_neg (by simp)]; decide)).mono fun _ _ hp => .inl ⟨_, hs, hp⟩
  | true =>
   have hs : stepG l true i = .inr (l.length, 40) := by unfold stepG; rw [hn]; simp
   exact (lexNext_bad l _ i g b w h hi hl hgap hge (by unfold badV; rw [if_pos rfl]; exact decide_eq_true (by omega)) l.length (by unfold badV; rw [if_pos rfl])).mono fun _ _ hp => .inr ⟨_, g, hs, hp⟩
 ·have hlt : g < l.length := by omega
  have hat := tok_at hlt
  obtain ⟨x, hx⟩ : ∃ x, tokG l g = x := ⟨_, rfl⟩
  rw [hx] at hat
  have hfq : ∀ (p : Nat) (N : Int), nextG l i = .inr (p, N) -> stepG l less i = .inr (failQ l less p N) := fun p N hn => by
   unfold stepG failQ
   rw [hn]
   show (if less = true /\ p = l.length then (.inr (l.length, 40) : TokR) else .inr (p, N)) = .inr (if less = true /\ p = l.length then (l.length, 40) else (p, N))
   by_cases hc : less = true /\ p = l.length
   ·rw [if_pos hc, if_pos hc]
   ·rw [if_neg hc, if_neg hc]
  rcases x with t | ⟨p, N⟩
  ·obtain ⟨K, X, Y, Z, A, E⟩ := t
   obtain ⟨hA, ⟨e, hE, h1, h2⟩, hk, _⟩ := hat
   simp only at hA hE hk
   subst hA hE
   have hnx : nextG l i = if 65536 < X.length \/ 65536 < Y.length then .inr (g, 2) else .inl ⟨K, X, Y, Z, (g : Nat), (e : Nat)⟩ := by unfold nextG; rw [hgap, if_neg hge, hx]
   by_cases hlong : 65536 < X.length \/ 65536 < Y.length
   ·rw [if_pos hlong] at hnx
    exact (lexNext_long l _ i g b w h hi hl hgap hTM hlt K X Y Z (e - g) e (by omega) h2 hx hlong _ (fun u hu => lexFail_l l less g .nilIface b g 2 hg.2 u hu)).mono fun _ _ hp => .inr ⟨_, g, hfq g 2 hnx, hp⟩
   ·rw [if_neg hlong] at hnx
    have hs : stepG l less i = .inl ⟨K, X, Y, Z, (g : Nat), (e : Nat)⟩ := by unfold stepG; rw [hnx]; simp only; rw [if_neg (fun x => by have := x.2; omega)]
    exact (lexNext_tok l _ i g b w h hi hl hgap hTM hlt K X Y Z (e - g) e (by omega) h2 hx (by omega) (by omega)).mono fun _ _ hp => .inl ⟨_, hs, hp⟩
  ·have hnx : nextG l i = .inr (p, N) := by unfold nextG; rw [hgap, if_neg hge, hx]
   exact (lexNext_err l _ i g b w h hi hl hgap hTM hlt p N hat.2.2 hx _ (fun u hu => lexFail_l l less g .nilIface b p N hat.2.1 u hu)).mono fun _ _ hp => .inr ⟨_, g, hfq p N hnx, hp⟩
def headL (l : List UInt8) : List UInt8 := if utfF l 0 = -1 then l else l.take (utfF l 0).toNat
def lessB (l : List UInt8) : Bool := !decide (utfF l 0 = -1)
theorem bad_is (l : List UInt8) : badV (headL l) (lessB l) = utfF l 0 := by
 unfold badV headL lessB
 by_cases h : utfF l 0 = -1
 ·rw [if_pos h, h]; simp
 ·have := utfF_ge l l.length 0 (by omega)
  rw [if_neg h, decide_eq_false h, if_pos (show (!false) = true from rfl), List.length_take]
  omega
set_option maxHeartbeats 1600000 in
theorem lexNew_l (l : List UInt8) (w : World) (hl : l.length <= 4194304) :
  Calls Tryz.prog 23 #[.string (B l)] w fun e w' => ∃ b, e = .returned (.pointer (some ⟨b, 0, none⟩)) /\ w.heap.size <= b /\ LexAt w' b (headL l) (badV (headL l) (lessB l)) 0 .nilIface /\ Below w.heap.size w w' := by
 have UC := hid (fun u => utfCheck_l l u (by omega))
 have y1 : decide ((67108864 : Int) < (l.length : Int)) = false := decide_eq_false (by omega)
 have HBD := hid (bad_is l)
 have hut := utfF_ge l l.length 0 (by omega)
 have HLX : Hid (LexAt (w.alloc (.cells #[.string (B l), .int .i64 (utfF l 0), .int .i64 0, .nilIface] 105)) w.heap.size l (utfF l 0) 0 .nilIface) := hid (rowAt_of_heap (heap_alloc_new w _))
 have HB : Hid (Below w.heap.size w (w.alloc (.cells #[.string (B l), .int .i64 (utfF l 0), .int .i64 0, .nilIface] 105))) := hid ((Below.refl _ _).alloc (Nat.le_refl _) _)
 obtain ⟨W, hW⟩ : ∃ W, w.alloc (.cells #[.string (B l), .int .i64 (utfF l 0), .int .i64 0, .nilIface] 105) = W := ⟨_, rfl⟩
 rw [hW] at HLX HB
 obtain ⟨x0, x1, x2, x3, f0, f1, f2, f3⟩ := RowAt.four HLX.out
 have hbl := HLX.out.lt
 have HE : Hid (headL l = if utfF l 0 = -1 then l else l.take (utfF l 0).toNat) := hid rfl
 generalize utfF l 0 = z at *
 go_enter Tryz.func23, Tryz.ntmps23
 by_cases hz : z = -1
 ·have e1 : decide ((0 : Int) <= z) = false := decide_eq_false (by omega)
  have hh : headL l = l := by rw [HE.out, if_pos hz]
  clear hz hut
  go_wp2_with (go_at_call 20; (with_reducible refine (UC.out _).mono ?_); rintro e w1 ⟨rfl, rfl⟩)
  go_ret
  exact ⟨_, rfl, Nat.le_refl _, by rw [HBD.out, hh]; exact HLX.out, HB.out⟩
 ·have e1 : decide ((0 : Int) <= z) = true := decide_eq_true (by omega)
  obtain ⟨n, rfl⟩ : ∃ n : Nat, z = (n : Int) := ⟨z.toNat, by omega⟩
  have k1 : (n : Int) <= (l.length : Int) := by omega
  have k0 : (0 : Int) <= (n : Int) := by omega
  have hh : headL l = l.take n := by rw [HE.out, if_neg hz]; rfl
  clear hz hut
  go_wp2_with (go_at_call 20; (with_reducible refine (UC.out _).mono ?_); rintro e w1 ⟨rfl, rfl⟩)
  go_ret
  have HS := RowAt.set HLX.out (j := 0) (by simp) (.string (B (List.take n l)))
  exact ⟨_, rfl, Nat.le_refl _, by rw [HBD.out, hh]; exact HS, HB.out.setCell (Nat.le_refl _) _⟩
end Go.Proofs.YtdhmpakhdhdebaaGreatDoor
