/-
  tesseralaw09.NquadsBack: the walk. By an AI agent.
-/
import Derived.Test.YtdegonmkikfghaaGreatDoorZJoinsW
namespace Go.Proofs.YtdegonmkikfghaaGreatDoor
open Go.RowKit
set_option maxRecDepth 1000000
set_option maxHeartbeats 4000000 in
theorem back_bad_bad (l : List QuadL) (s : List UInt8) (v : Value) (most : Int) (w : World) (J : BIn l s v w) (n : Int) (hv : (validF l).2 = n) (hn : n ≠ 0) (p : Nat) (c : Int) (hs : parseF s = .inr (p, c)) :
   Calls Tryz.prog 7 #[v, .string (B s), .int .i64 most] w fun e w' => e = .returned (.bool true) /\ Below w.heap.size w w' := by
 have HJ := Lib.hid J
 have k0 : (n == 0) = false := beq_eq_false_iff_ne.2 hn
 have VL : Hid (∀ u, Below w.heap.size w u -> Calls Tryz.prog 30 #[v] u fun e w' => e = .returned (.tuple #[.int .i64 (validF l).1, .int .i64 n]) /\ Below u.heap.size u w') := Lib.hid (hv ▸ J.vl)
 have PF : Hid (∀ u, Below w.heap.size w u -> Calls Tryz.prog 13 #[v, .int .i64 1099511627776] u fun e w' => PrintPost u w' e ([], n)) := Lib.hid (fun u hb => by have h := J.pr 1099511627776 u hb; rw [print_bad (by rw [hv]; exact hn), hv] at h; exact h)
 have HS := Lib.hid hs
 clear J hv hn hs
 go_enter Tryz.func7, Tryz.ntmps7
 go_wp2_with (first
   | (go_at_call 29; (with_reducible refine HJ.out.aw.mono ?_); rintro e w1 ⟨rfl, hb1⟩; have HB1 := Lib.hid hb1; clear hb1)
   | (go_at_call 11; (with_reducible refine (HJ.out.hv _ HB1.out).mono ?_); rintro e w2 ⟨⟨hvy, rfl⟩, hb2⟩; have HB2 := Lib.hid (HB1.out.trans (hb2.mono HB1.out.size)); clear hb2)
   | (go_at_call 30; (with_reducible refine (VL.out _ HB2.out).mono ?_); rintro e w3 ⟨rfl, hb3⟩; have HB3 := Lib.hid (HB2.out.trans (hb3.mono HB2.out.size)); clear hb3)
   | (go_at_call 13; (with_reducible refine (PF.out _ HB3.out).mono ?_); rintro e w4 hp4; obtain ⟨a4, c4, rfl, ho4, hb4⟩ := hp4.open; have HB4 := Lib.hid (HB3.out.trans (hb4.mono HB3.out.size)); obtain ⟨cap, C, hc, hcv, hr⟩ := HJ.out.cs w4; have HC := Lib.hid hc; have HR := Lib.hid hr; clear hc hr; clear hb4 ho4 hp4)
   | (go_at_call 25; (with_reducible refine (HJ.out.ps _ _ _ HB4.out HC.out HR.out).mono ?_); rintro e w8 ⟨hP, hb8⟩; rw [HS.out] at hP; obtain ⟨ev, rfl, hF⟩ := hP; obtain ⟨eb, rfl, _, _⟩ := hF; have HB8 := Lib.hid (HB4.out.trans (hb8.mono HB4.out.size)); clear hb8 hcv))
 · go_ret
   exact ⟨rfl, HB2.out⟩
 · go_ret
   exact ⟨rfl, HB8.out⟩
set_option maxHeartbeats 4000000 in
theorem back_bad_short (l : List QuadL) (s : List UInt8) (v : Value) (most : Int) (w : World) (J : BIn l s v w) (n : Int) (hv : (validF l).2 = n) (hn : n ≠ 0) (a : List QuadL) (hs : parseF s = .inl a) (hsl : s.length <= 1048575) (hLa : (linesF a).length <= 67108864) :
   Calls Tryz.prog 7 #[v, .string (B s), .int .i64 most] w fun e w' => e = .returned (.bool true) /\ Below w.heap.size w w' := by
 have HJ := Lib.hid J
 have k0 : (n == 0) = false := beq_eq_false_iff_ne.2 hn
 have VL : Hid (∀ u, Below w.heap.size w u -> Calls Tryz.prog 30 #[v] u fun e w' => e = .returned (.tuple #[.int .i64 (validF l).1, .int .i64 n]) /\ Below u.heap.size u w') := Lib.hid (hv ▸ J.vl)
 have PF : Hid (∀ u, Below w.heap.size w u -> Calls Tryz.prog 13 #[v, .int .i64 1099511627776] u fun e w' => PrintPost u w' e ([], n)) := Lib.hid (fun u hb => by have h := J.pr 1099511627776 u hb; rw [print_bad (by rw [hv]; exact hn), hv] at h; exact h)
 have hfa : Fine a := parse_fine hs (by omega)
 have hna : Neat a := parse_neat hs hsl
 have HFA := Lib.hid hfa
 have HNA := Lib.hid hna
 have GP : Hid (∀ v u, Below w.heap.size w u -> QView u v a -> Calls Tryz.prog 13 #[v, .int .i64 1099511627776] u fun e w' => PrintPost u w' e (linesF a, 0)) := Lib.hid (fun v u hb hq => by have h := J.gp a v 1099511627776 u hb hq hna; rw [print_ok hfa hna.1 _ (Int.le_refl _)] at h; exact h)
 have GV : Hid (∀ v u, Below w.heap.size w u -> QView u v a -> Calls Tryz.prog 30 #[v] u fun e w' => e = .returned (.tuple #[.int .i64 (validF a).1, .int .i64 0]) /\ Below u.heap.size u w') := Lib.hid (fun v u hb hq => (validF_ok a).2 hfa ▸ J.gv a v u hb hq hna)
 have j1 : decide ((67108864 : Int) < ((linesF a).length : Int)) = false := decide_eq_false (by omega)
 have j1n : decide (67108864 < (linesF a).length) = false := decide_eq_false (by omega)
 have HLA := Lib.hid hLa
 have SQA := Lib.hid (fun (u : World) (v0 v1 : Value) (h0 : QView u v0 a) (h1 : QView u v1 a) => sameQuads_t a v0 v1 u h0 h1 (by have := hna.1; omega))
 have HS := Lib.hid hs
 clear J hv hn hfa hna hsl hLa hs
 go_enter Tryz.func7, Tryz.ntmps7
 go_wp2_with (first
   | (go_at_call 29; (with_reducible refine HJ.out.aw.mono ?_); rintro e w1 ⟨rfl, hb1⟩; have HB1 := Lib.hid hb1; clear hb1)
   | (go_at_call 11; (with_reducible refine (HJ.out.hv _ HB1.out).mono ?_); rintro e w2 ⟨⟨hvy, rfl⟩, hb2⟩; have HB2 := Lib.hid (HB1.out.trans (hb2.mono HB1.out.size)); clear hb2)
   | (go_at_call 30; (with_reducible refine (VL.out _ HB2.out).mono ?_); rintro e w3 ⟨rfl, hb3⟩; have HB3 := Lib.hid (HB2.out.trans (hb3.mono HB2.out.size)); clear hb3)
   | (go_at_call 13; (with_reducible refine (PF.out _ HB3.out).mono ?_); rintro e w4 hp4; obtain ⟨a4, c4, rfl, ho4, hb4⟩ := hp4.open; have HB4 := Lib.hid (HB3.out.trans (hb4.mono HB3.out.size)); obtain ⟨cap, C, hc, hcv, hr⟩ := HJ.out.cs w4; have HC := Lib.hid hc; have HR := Lib.hid hr; clear hc hr; clear hb4 ho4 hp4)
   | (go_at_call 25; (with_reducible refine (HJ.out.ps _ _ _ HB4.out HC.out HR.out).mono ?_); rintro e w8 ⟨hP, hb8⟩; rw [HS.out] at hP; obtain ⟨va, rfl, hF⟩ := hP; obtain ⟨pa, ca, rfl⟩ := hF.view.form; have HQ8 := Lib.hid hF.view; have HB8 := Lib.hid (HB4.out.trans (hb8.mono HB4.out.size)); clear hb8 hcv hF)
   | (go_at_call 13; (with_reducible refine (GP.out _ _ HB8.out HQ8.out).mono ?_); rintro e w9 hp9; obtain ⟨a9, c9, rfl, ho9, hb9⟩ := hp9.open; have HB9 := Lib.hid (HB8.out.trans (hb9.mono HB8.out.size)); have HQ9 := Lib.hid (HQ8.out.below hb9); have HO9 := Lib.hid ho9; clear hb9 ho9 hp9)
   | (go_at_call 30; (with_reducible refine (GV.out _ _ HB9.out HQ9.out).mono ?_); rintro e w10 ⟨rfl, hb10⟩; have HB10 := Lib.hid (HB9.out.trans (hb10.mono HB9.out.size)); have HQ10 := Lib.hid (HQ9.out.below hb10); have HO10 := Lib.hid (HO9.out.below hb10); clear hb10)
   | (go_at_call 25; (with_reducible refine (HJ.out.po _ _ _ _ _ HB10.out HO10.out HFA.out HLA.out).mono ?_); rintro e w11 ⟨⟨pn, cn, rfl, hq11⟩, hb11⟩; have HB11 := Lib.hid (HB10.out.trans (hb11.mono HB10.out.size)); have HQ11 := Lib.hid (HQ10.out.below hb11); have HN11 := Lib.hid hq11; clear hb11 hq11)
   | (go_at_call 27; (with_reducible refine (SQA.out _ _ _ HN11.out HQ11.out).mono ?_); rintro e w12 ⟨rfl, hb12⟩; have HB12 := Lib.hid (HB11.out.trans (hb12.mono HB11.out.size)); clear hb12))
 · go_ret
   exact ⟨rfl, HB2.out⟩
 · go_ret
   exact ⟨rfl, HB12.out⟩
set_option maxHeartbeats 4000000 in
theorem back_bad_long (l : List QuadL) (s : List UInt8) (v : Value) (most : Int) (w : World) (J : BIn l s v w) (n : Int) (hv : (validF l).2 = n) (hn : n ≠ 0) (a : List QuadL) (hs : parseF s = .inl a) (hsl : s.length <= 1048575) (hLa : 67108864 < (linesF a).length) :
   Calls Tryz.prog 7 #[v, .string (B s), .int .i64 most] w fun e w' => e = .returned (.bool true) /\ Below w.heap.size w w' := by
 have HJ := Lib.hid J
 have k0 : (n == 0) = false := beq_eq_false_iff_ne.2 hn
 have VL : Hid (∀ u, Below w.heap.size w u -> Calls Tryz.prog 30 #[v] u fun e w' => e = .returned (.tuple #[.int .i64 (validF l).1, .int .i64 n]) /\ Below u.heap.size u w') := Lib.hid (hv ▸ J.vl)
 have PF : Hid (∀ u, Below w.heap.size w u -> Calls Tryz.prog 13 #[v, .int .i64 1099511627776] u fun e w' => PrintPost u w' e ([], n)) := Lib.hid (fun u hb => by have h := J.pr 1099511627776 u hb; rw [print_bad (by rw [hv]; exact hn), hv] at h; exact h)
 have hfa : Fine a := parse_fine hs (by omega)
 have hna : Neat a := parse_neat hs hsl
 have HFA := Lib.hid hfa
 have HNA := Lib.hid hna
 have GP : Hid (∀ v u, Below w.heap.size w u -> QView u v a -> Calls Tryz.prog 13 #[v, .int .i64 1099511627776] u fun e w' => PrintPost u w' e (linesF a, 0)) := Lib.hid (fun v u hb hq => by have h := J.gp a v 1099511627776 u hb hq hna; rw [print_ok hfa hna.1 _ (Int.le_refl _)] at h; exact h)
 have GV : Hid (∀ v u, Below w.heap.size w u -> QView u v a -> Calls Tryz.prog 30 #[v] u fun e w' => e = .returned (.tuple #[.int .i64 (validF a).1, .int .i64 0]) /\ Below u.heap.size u w') := Lib.hid (fun v u hb hq => (validF_ok a).2 hfa ▸ J.gv a v u hb hq hna)
 have j1 : decide ((67108864 : Int) < ((linesF a).length : Int)) = true := decide_eq_true (by omega)
 have j1n : decide (67108864 < (linesF a).length) = true := decide_eq_true hLa
 have HLA := Lib.hid hLa
 have HS := Lib.hid hs
 clear J hv hn hfa hna hsl hLa hs
 go_enter Tryz.func7, Tryz.ntmps7
 go_wp2_with (first
   | (go_at_call 29; (with_reducible refine HJ.out.aw.mono ?_); rintro e w1 ⟨rfl, hb1⟩; have HB1 := Lib.hid hb1; clear hb1)
   | (go_at_call 11; (with_reducible refine (HJ.out.hv _ HB1.out).mono ?_); rintro e w2 ⟨⟨hvy, rfl⟩, hb2⟩; have HB2 := Lib.hid (HB1.out.trans (hb2.mono HB1.out.size)); clear hb2)
   | (go_at_call 30; (with_reducible refine (VL.out _ HB2.out).mono ?_); rintro e w3 ⟨rfl, hb3⟩; have HB3 := Lib.hid (HB2.out.trans (hb3.mono HB2.out.size)); clear hb3)
   | (go_at_call 13; (with_reducible refine (PF.out _ HB3.out).mono ?_); rintro e w4 hp4; obtain ⟨a4, c4, rfl, ho4, hb4⟩ := hp4.open; have HB4 := Lib.hid (HB3.out.trans (hb4.mono HB3.out.size)); obtain ⟨cap, C, hc, hcv, hr⟩ := HJ.out.cs w4; have HC := Lib.hid hc; have HR := Lib.hid hr; clear hc hr; clear hb4 ho4 hp4)
   | (go_at_call 25; (with_reducible refine (HJ.out.ps _ _ _ HB4.out HC.out HR.out).mono ?_); rintro e w8 ⟨hP, hb8⟩; rw [HS.out] at hP; obtain ⟨va, rfl, hF⟩ := hP; obtain ⟨pa, ca, rfl⟩ := hF.view.form; have HQ8 := Lib.hid hF.view; have HB8 := Lib.hid (HB4.out.trans (hb8.mono HB4.out.size)); clear hb8 hcv hF)
   | (go_at_call 13; (with_reducible refine (GP.out _ _ HB8.out HQ8.out).mono ?_); rintro e w9 hp9; obtain ⟨a9, c9, rfl, ho9, hb9⟩ := hp9.open; have HB9 := Lib.hid (HB8.out.trans (hb9.mono HB8.out.size)); have HQ9 := Lib.hid (HQ8.out.below hb9); have HO9 := Lib.hid ho9; clear hb9 ho9 hp9)
   | (go_at_call 30; (with_reducible refine (GV.out _ _ HB9.out HQ9.out).mono ?_); rintro e w10 ⟨rfl, hb10⟩; have HB10 := Lib.hid (HB9.out.trans (hb10.mono HB9.out.size)); have HQ10 := Lib.hid (HQ9.out.below hb10); have HO10 := Lib.hid (HO9.out.below hb10); clear hb10)
   | (go_at_call 25; (with_reducible refine (nqParse_long _ _ _ _ HLA.out).mono ?_); rintro e w11 ⟨⟨vn, evn, rfl⟩, hb11⟩; have HB11 := Lib.hid (HB10.out.trans (hb11.mono HB10.out.size)); clear hb11))
 · go_ret
   exact ⟨rfl, HB2.out⟩
 · go_ret
   exact ⟨rfl, HB11.out⟩
set_option maxHeartbeats 4000000 in
theorem back_sf_bad (l : List QuadL) (s : List UInt8) (v : Value) (most : Int) (w : World) (J : BIn l s v w) (hf : Fine l) (hl : l.length <= 524288) (hL : (linesF l).length <= 67108864) (hm : ((linesF l).length : Int) <= most) (p : Nat) (c : Int) (hs : parseF s = .inr (p, c)) :
   Calls Tryz.prog 7 #[v, .string (B s), .int .i64 most] w fun e w' => e = .returned (.bool true) /\ Below w.heap.size w w' := by
 have HJ := Lib.hid J
 have VL : Hid (∀ u, Below w.heap.size w u -> Calls Tryz.prog 30 #[v] u fun e w' => e = .returned (.tuple #[.int .i64 (validF l).1, .int .i64 0]) /\ Below u.heap.size u w') := Lib.hid ((validF_ok l).2 hf ▸ J.vl)
 have PF : Hid (∀ u, Below w.heap.size w u -> Calls Tryz.prog 13 #[v, .int .i64 1099511627776] u fun e w' => PrintPost u w' e (linesF l, 0)) := Lib.hid (fun u hb => by have h := J.pr 1099511627776 u hb; rw [print_ok hf hl _ (Int.le_refl _)] at h; exact h)
 have HF := Lib.hid hf
 have k1 : decide (((linesF l).length : Int) <= 67108864) = true := decide_eq_true (by omega)
 have k1n : decide ((linesF l).length <= 67108864) = true := decide_eq_true hL
 have HL := Lib.hid hL
 have SQ := Lib.hid (fun (u : World) (v0 : Value) (hb : Below w.heap.size w u) (h0 : QView u v0 l) => sameQuads_t l v0 v u h0 (J.vw.below hb) (by omega))
 have k2 : decide (((linesF l).length : Int) <= most) = true := decide_eq_true hm
 have k3 : decide (most < ((linesF l).length : Int)) = false := decide_eq_false (by omega)
 have PM : Hid (∀ u, Below w.heap.size w u -> Calls Tryz.prog 13 #[v, .int .i64 most] u fun e w' => PrintPost u w' e (linesF l, 0)) := Lib.hid (fun u hb => by have h := J.pr most u hb; rw [print_fits hf _ hm] at h; exact h)
 have HS := Lib.hid hs
 clear J hf hL hm hs
 go_enter Tryz.func7, Tryz.ntmps7
 go_wp2_with (first
   | (go_at_call 29; (with_reducible refine HJ.out.aw.mono ?_); rintro e w1 ⟨rfl, hb1⟩; have HB1 := Lib.hid hb1; clear hb1)
   | (go_at_call 11; (with_reducible refine (HJ.out.hv _ HB1.out).mono ?_); rintro e w2 ⟨⟨hvy, rfl⟩, hb2⟩; have HB2 := Lib.hid (HB1.out.trans (hb2.mono HB1.out.size)); clear hb2)
   | (go_at_call 30; (with_reducible refine (VL.out _ HB2.out).mono ?_); rintro e w3 ⟨rfl, hb3⟩; have HB3 := Lib.hid (HB2.out.trans (hb3.mono HB2.out.size)); clear hb3)
   | (go_at_call 13; (with_reducible refine (PF.out _ HB3.out).mono ?_); rintro e w4 hp4; obtain ⟨a4, c4, rfl, ho4, hb4⟩ := hp4.open; have HB4 := Lib.hid (HB3.out.trans (hb4.mono HB3.out.size)); have HO4 := Lib.hid ho4; clear hb4 ho4 hp4)
   | (go_at_call 25; (with_reducible refine (HJ.out.po _ _ _ _ _ HB4.out HO4.out HF.out HL.out).mono ?_); rintro e w5 ⟨⟨pm, cm, rfl, hq5⟩, hb5⟩; have HB5 := Lib.hid (HB4.out.trans (hb5.mono HB4.out.size)); have HO5 := Lib.hid (HO4.out.below hb5); have HQ5 := Lib.hid hq5; clear hb5 hq5)
   | (go_at_call 27; (with_reducible refine (SQ.out _ _ HB5.out HQ5.out).mono ?_); rintro e w6 ⟨rfl, hb6⟩; have HB6 := Lib.hid (HB5.out.trans (hb6.mono HB5.out.size)); have HO6 := Lib.hid (HO5.out.below hb6); clear hb6)
   | (go_at_call 13; (with_reducible refine (PM.out _ HB6.out).mono ?_); rintro e w7 hp7; obtain ⟨a7, c7, rfl, ho7, hb7⟩ := hp7.open; have HB7 := Lib.hid (HB6.out.trans (hb7.mono HB6.out.size)); have bk4 := (HO6.out.below hb7).back; have bk7 := ho7.back; obtain ⟨cap, C, hc, hcv, hr⟩ := HJ.out.cs w7; have HC := Lib.hid hc; have HR := Lib.hid hr; clear hc hr; clear hb7 ho7 hp7)
   | (go_at_call 25; (with_reducible refine (HJ.out.ps _ _ _ HB7.out HC.out HR.out).mono ?_); rintro e w8 ⟨hP, hb8⟩; rw [HS.out] at hP; obtain ⟨ev, rfl, hF⟩ := hP; obtain ⟨eb, rfl, _, _⟩ := hF; have HB8 := Lib.hid (HB7.out.trans (hb8.mono HB7.out.size)); clear hb8 hcv))
 · go_ret
   exact ⟨rfl, HB2.out⟩
 · go_ret
   exact ⟨rfl, HB8.out⟩
set_option maxHeartbeats 4000000 in
theorem back_sf_short (l : List QuadL) (s : List UInt8) (v : Value) (most : Int) (w : World) (J : BIn l s v w) (hf : Fine l) (hl : l.length <= 524288) (hL : (linesF l).length <= 67108864) (hm : ((linesF l).length : Int) <= most) (a : List QuadL) (hs : parseF s = .inl a) (hsl : s.length <= 1048575) (hLa : (linesF a).length <= 67108864) :
   Calls Tryz.prog 7 #[v, .string (B s), .int .i64 most] w fun e w' => e = .returned (.bool true) /\ Below w.heap.size w w' := by
 have HJ := Lib.hid J
 have VL : Hid (∀ u, Below w.heap.size w u -> Calls Tryz.prog 30 #[v] u fun e w' => e = .returned (.tuple #[.int .i64 (validF l).1, .int .i64 0]) /\ Below u.heap.size u w') := Lib.hid ((validF_ok l).2 hf ▸ J.vl)
 have PF : Hid (∀ u, Below w.heap.size w u -> Calls Tryz.prog 13 #[v, .int .i64 1099511627776] u fun e w' => PrintPost u w' e (linesF l, 0)) := Lib.hid (fun u hb => by have h := J.pr 1099511627776 u hb; rw [print_ok hf hl _ (Int.le_refl _)] at h; exact h)
 have HF := Lib.hid hf
 have k1 : decide (((linesF l).length : Int) <= 67108864) = true := decide_eq_true (by omega)
 have k1n : decide ((linesF l).length <= 67108864) = true := decide_eq_true hL
 have HL := Lib.hid hL
 have SQ := Lib.hid (fun (u : World) (v0 : Value) (hb : Below w.heap.size w u) (h0 : QView u v0 l) => sameQuads_t l v0 v u h0 (J.vw.below hb) (by omega))
 have k2 : decide (((linesF l).length : Int) <= most) = true := decide_eq_true hm
 have k3 : decide (most < ((linesF l).length : Int)) = false := decide_eq_false (by omega)
 have PM : Hid (∀ u, Below w.heap.size w u -> Calls Tryz.prog 13 #[v, .int .i64 most] u fun e w' => PrintPost u w' e (linesF l, 0)) := Lib.hid (fun u hb => by have h := J.pr most u hb; rw [print_fits hf _ hm] at h; exact h)
 have hfa : Fine a := parse_fine hs (by omega)
 have hna : Neat a := parse_neat hs hsl
 have HFA := Lib.hid hfa
 have HNA := Lib.hid hna
 have GP : Hid (∀ v u, Below w.heap.size w u -> QView u v a -> Calls Tryz.prog 13 #[v, .int .i64 1099511627776] u fun e w' => PrintPost u w' e (linesF a, 0)) := Lib.hid (fun v u hb hq => by have h := J.gp a v 1099511627776 u hb hq hna; rw [print_ok hfa hna.1 _ (Int.le_refl _)] at h; exact h)
 have GV : Hid (∀ v u, Below w.heap.size w u -> QView u v a -> Calls Tryz.prog 30 #[v] u fun e w' => e = .returned (.tuple #[.int .i64 (validF a).1, .int .i64 0]) /\ Below u.heap.size u w') := Lib.hid (fun v u hb hq => (validF_ok a).2 hfa ▸ J.gv a v u hb hq hna)
 have j1 : decide ((67108864 : Int) < ((linesF a).length : Int)) = false := decide_eq_false (by omega)
 have j1n : decide (67108864 < (linesF a).length) = false := decide_eq_false (by omega)
 have HLA := Lib.hid hLa
 have SQA := Lib.hid (fun (u : World) (v0 v1 : Value) (h0 : QView u v0 a) (h1 : QView u v1 a) => sameQuads_t a v0 v1 u h0 h1 (by have := hna.1; omega))
 have HS := Lib.hid hs
 clear J hf hL hm hfa hna hsl hLa hs
 go_enter Tryz.func7, Tryz.ntmps7
 go_wp2_with (first
   | (go_at_call 29; (with_reducible refine HJ.out.aw.mono ?_); rintro e w1 ⟨rfl, hb1⟩; have HB1 := Lib.hid hb1; clear hb1)
   | (go_at_call 11; (with_reducible refine (HJ.out.hv _ HB1.out).mono ?_); rintro e w2 ⟨⟨hvy, rfl⟩, hb2⟩; have HB2 := Lib.hid (HB1.out.trans (hb2.mono HB1.out.size)); clear hb2)
   | (go_at_call 30; (with_reducible refine (VL.out _ HB2.out).mono ?_); rintro e w3 ⟨rfl, hb3⟩; have HB3 := Lib.hid (HB2.out.trans (hb3.mono HB2.out.size)); clear hb3)
   | (go_at_call 13; (with_reducible refine (PF.out _ HB3.out).mono ?_); rintro e w4 hp4; obtain ⟨a4, c4, rfl, ho4, hb4⟩ := hp4.open; have HB4 := Lib.hid (HB3.out.trans (hb4.mono HB3.out.size)); have HO4 := Lib.hid ho4; clear hb4 ho4 hp4)
   | (go_at_call 25; (with_reducible refine (HJ.out.po _ _ _ _ _ HB4.out HO4.out HF.out HL.out).mono ?_); rintro e w5 ⟨⟨pm, cm, rfl, hq5⟩, hb5⟩; have HB5 := Lib.hid (HB4.out.trans (hb5.mono HB4.out.size)); have HO5 := Lib.hid (HO4.out.below hb5); have HQ5 := Lib.hid hq5; clear hb5 hq5)
   | (go_at_call 27; (with_reducible refine (SQ.out _ _ HB5.out HQ5.out).mono ?_); rintro e w6 ⟨rfl, hb6⟩; have HB6 := Lib.hid (HB5.out.trans (hb6.mono HB5.out.size)); have HO6 := Lib.hid (HO5.out.below hb6); clear hb6)
   | (go_at_call 13; (with_reducible refine (PM.out _ HB6.out).mono ?_); rintro e w7 hp7; obtain ⟨a7, c7, rfl, ho7, hb7⟩ := hp7.open; have HB7 := Lib.hid (HB6.out.trans (hb7.mono HB6.out.size)); have bk4 := (HO6.out.below hb7).back; have bk7 := ho7.back; obtain ⟨cap, C, hc, hcv, hr⟩ := HJ.out.cs w7; have HC := Lib.hid hc; have HR := Lib.hid hr; clear hc hr; clear hb7 ho7 hp7)
   | (go_at_call 25; (with_reducible refine (HJ.out.ps _ _ _ HB7.out HC.out HR.out).mono ?_); rintro e w8 ⟨hP, hb8⟩; rw [HS.out] at hP; obtain ⟨va, rfl, hF⟩ := hP; obtain ⟨pa, ca, rfl⟩ := hF.view.form; have HQ8 := Lib.hid hF.view; have HB8 := Lib.hid (HB7.out.trans (hb8.mono HB7.out.size)); clear hb8 hcv hF)
   | (go_at_call 13; (with_reducible refine (GP.out _ _ HB8.out HQ8.out).mono ?_); rintro e w9 hp9; obtain ⟨a9, c9, rfl, ho9, hb9⟩ := hp9.open; have HB9 := Lib.hid (HB8.out.trans (hb9.mono HB8.out.size)); have HQ9 := Lib.hid (HQ8.out.below hb9); have HO9 := Lib.hid ho9; clear hb9 ho9 hp9)
   | (go_at_call 30; (with_reducible refine (GV.out _ _ HB9.out HQ9.out).mono ?_); rintro e w10 ⟨rfl, hb10⟩; have HB10 := Lib.hid (HB9.out.trans (hb10.mono HB9.out.size)); have HQ10 := Lib.hid (HQ9.out.below hb10); have HO10 := Lib.hid (HO9.out.below hb10); clear hb10)
   | (go_at_call 25; (with_reducible refine (HJ.out.po _ _ _ _ _ HB10.out HO10.out HFA.out HLA.out).mono ?_); rintro e w11 ⟨⟨pn, cn, rfl, hq11⟩, hb11⟩; have HB11 := Lib.hid (HB10.out.trans (hb11.mono HB10.out.size)); have HQ11 := Lib.hid (HQ10.out.below hb11); have HN11 := Lib.hid hq11; clear hb11 hq11)
   | (go_at_call 27; (with_reducible refine (SQA.out _ _ _ HN11.out HQ11.out).mono ?_); rintro e w12 ⟨rfl, hb12⟩; have HB12 := Lib.hid (HB11.out.trans (hb12.mono HB11.out.size)); clear hb12))
 · go_ret
   exact ⟨rfl, HB2.out⟩
 · go_ret
   exact ⟨rfl, HB12.out⟩
set_option maxHeartbeats 4000000 in
theorem back_sf_long (l : List QuadL) (s : List UInt8) (v : Value) (most : Int) (w : World) (J : BIn l s v w) (hf : Fine l) (hl : l.length <= 524288) (hL : (linesF l).length <= 67108864) (hm : ((linesF l).length : Int) <= most) (a : List QuadL) (hs : parseF s = .inl a) (hsl : s.length <= 1048575) (hLa : 67108864 < (linesF a).length) :
   Calls Tryz.prog 7 #[v, .string (B s), .int .i64 most] w fun e w' => e = .returned (.bool true) /\ Below w.heap.size w w' := by
 have HJ := Lib.hid J
 have VL : Hid (∀ u, Below w.heap.size w u -> Calls Tryz.prog 30 #[v] u fun e w' => e = .returned (.tuple #[.int .i64 (validF l).1, .int .i64 0]) /\ Below u.heap.size u w') := Lib.hid ((validF_ok l).2 hf ▸ J.vl)
 have PF : Hid (∀ u, Below w.heap.size w u -> Calls Tryz.prog 13 #[v, .int .i64 1099511627776] u fun e w' => PrintPost u w' e (linesF l, 0)) := Lib.hid (fun u hb => by have h := J.pr 1099511627776 u hb; rw [print_ok hf hl _ (Int.le_refl _)] at h; exact h)
 have HF := Lib.hid hf
 have k1 : decide (((linesF l).length : Int) <= 67108864) = true := decide_eq_true (by omega)
 have k1n : decide ((linesF l).length <= 67108864) = true := decide_eq_true hL
 have HL := Lib.hid hL
 have SQ := Lib.hid (fun (u : World) (v0 : Value) (hb : Below w.heap.size w u) (h0 : QView u v0 l) => sameQuads_t l v0 v u h0 (J.vw.below hb) (by omega))
 have k2 : decide (((linesF l).length : Int) <= most) = true := decide_eq_true hm
 have k3 : decide (most < ((linesF l).length : Int)) = false := decide_eq_false (by omega)
 have PM : Hid (∀ u, Below w.heap.size w u -> Calls Tryz.prog 13 #[v, .int .i64 most] u fun e w' => PrintPost u w' e (linesF l, 0)) := Lib.hid (fun u hb => by have h := J.pr most u hb; rw [print_fits hf _ hm] at h; exact h)
 have hfa : Fine a := parse_fine hs (by omega)
 have hna : Neat a := parse_neat hs hsl
 have HFA := Lib.hid hfa
 have HNA := Lib.hid hna
 have GP : Hid (∀ v u, Below w.heap.size w u -> QView u v a -> Calls Tryz.prog 13 #[v, .int .i64 1099511627776] u fun e w' => PrintPost u w' e (linesF a, 0)) := Lib.hid (fun v u hb hq => by have h := J.gp a v 1099511627776 u hb hq hna; rw [print_ok hfa hna.1 _ (Int.le_refl _)] at h; exact h)
 have GV : Hid (∀ v u, Below w.heap.size w u -> QView u v a -> Calls Tryz.prog 30 #[v] u fun e w' => e = .returned (.tuple #[.int .i64 (validF a).1, .int .i64 0]) /\ Below u.heap.size u w') := Lib.hid (fun v u hb hq => (validF_ok a).2 hfa ▸ J.gv a v u hb hq hna)
 have j1 : decide ((67108864 : Int) < ((linesF a).length : Int)) = true := decide_eq_true (by omega)
 have j1n : decide (67108864 < (linesF a).length) = true := decide_eq_true hLa
 have HLA := Lib.hid hLa
 have HS := Lib.hid hs
 clear J hf hL hm hfa hna hsl hLa hs
 go_enter Tryz.func7, Tryz.ntmps7
 go_wp2_with (first
   | (go_at_call 29; (with_reducible refine HJ.out.aw.mono ?_); rintro e w1 ⟨rfl, hb1⟩; have HB1 := Lib.hid hb1; clear hb1)
   | (go_at_call 11; (with_reducible refine (HJ.out.hv _ HB1.out).mono ?_); rintro e w2 ⟨⟨hvy, rfl⟩, hb2⟩; have HB2 := Lib.hid (HB1.out.trans (hb2.mono HB1.out.size)); clear hb2)
   | (go_at_call 30; (with_reducible refine (VL.out _ HB2.out).mono ?_); rintro e w3 ⟨rfl, hb3⟩; have HB3 := Lib.hid (HB2.out.trans (hb3.mono HB2.out.size)); clear hb3)
   | (go_at_call 13; (with_reducible refine (PF.out _ HB3.out).mono ?_); rintro e w4 hp4; obtain ⟨a4, c4, rfl, ho4, hb4⟩ := hp4.open; have HB4 := Lib.hid (HB3.out.trans (hb4.mono HB3.out.size)); have HO4 := Lib.hid ho4; clear hb4 ho4 hp4)
   | (go_at_call 25; (with_reducible refine (HJ.out.po _ _ _ _ _ HB4.out HO4.out HF.out HL.out).mono ?_); rintro e w5 ⟨⟨pm, cm, rfl, hq5⟩, hb5⟩; have HB5 := Lib.hid (HB4.out.trans (hb5.mono HB4.out.size)); have HO5 := Lib.hid (HO4.out.below hb5); have HQ5 := Lib.hid hq5; clear hb5 hq5)
   | (go_at_call 27; (with_reducible refine (SQ.out _ _ HB5.out HQ5.out).mono ?_); rintro e w6 ⟨rfl, hb6⟩; have HB6 := Lib.hid (HB5.out.trans (hb6.mono HB5.out.size)); have HO6 := Lib.hid (HO5.out.below hb6); clear hb6)
   | (go_at_call 13; (with_reducible refine (PM.out _ HB6.out).mono ?_); rintro e w7 hp7; obtain ⟨a7, c7, rfl, ho7, hb7⟩ := hp7.open; have HB7 := Lib.hid (HB6.out.trans (hb7.mono HB6.out.size)); have bk4 := (HO6.out.below hb7).back; have bk7 := ho7.back; obtain ⟨cap, C, hc, hcv, hr⟩ := HJ.out.cs w7; have HC := Lib.hid hc; have HR := Lib.hid hr; clear hc hr; clear hb7 ho7 hp7)
   | (go_at_call 25; (with_reducible refine (HJ.out.ps _ _ _ HB7.out HC.out HR.out).mono ?_); rintro e w8 ⟨hP, hb8⟩; rw [HS.out] at hP; obtain ⟨va, rfl, hF⟩ := hP; obtain ⟨pa, ca, rfl⟩ := hF.view.form; have HQ8 := Lib.hid hF.view; have HB8 := Lib.hid (HB7.out.trans (hb8.mono HB7.out.size)); clear hb8 hcv hF)
   | (go_at_call 13; (with_reducible refine (GP.out _ _ HB8.out HQ8.out).mono ?_); rintro e w9 hp9; obtain ⟨a9, c9, rfl, ho9, hb9⟩ := hp9.open; have HB9 := Lib.hid (HB8.out.trans (hb9.mono HB8.out.size)); have HQ9 := Lib.hid (HQ8.out.below hb9); have HO9 := Lib.hid ho9; clear hb9 ho9 hp9)
   | (go_at_call 30; (with_reducible refine (GV.out _ _ HB9.out HQ9.out).mono ?_); rintro e w10 ⟨rfl, hb10⟩; have HB10 := Lib.hid (HB9.out.trans (hb10.mono HB9.out.size)); have HQ10 := Lib.hid (HQ9.out.below hb10); have HO10 := Lib.hid (HO9.out.below hb10); clear hb10)
   | (go_at_call 25; (with_reducible refine (nqParse_long _ _ _ _ HLA.out).mono ?_); rintro e w11 ⟨⟨vn, evn, rfl⟩, hb11⟩; have HB11 := Lib.hid (HB10.out.trans (hb11.mono HB10.out.size)); clear hb11))
 · go_ret
   exact ⟨rfl, HB2.out⟩
 · go_ret
   exact ⟨rfl, HB11.out⟩
end Go.Proofs.YtdegonmkikfghaaGreatDoor
namespace Go.Proofs.YtdegonmkikfghaaGreatDoor
open Go.RowKit
set_option maxRecDepth 1000000
set_option maxHeartbeats 4000000 in
theorem back_sn_bad (l : List QuadL) (s : List UInt8) (v : Value) (most : Int) (w : World) (J : BIn l s v w) (hf : Fine l) (hl : l.length <= 524288) (hL : (linesF l).length <= 67108864) (hm : most < ((linesF l).length : Int)) (p : Nat) (c : Int) (hs : parseF s = .inr (p, c)) :
   Calls Tryz.prog 7 #[v, .string (B s), .int .i64 most] w fun e w' => e = .returned (.bool true) /\ Below w.heap.size w w' := by
 have HJ := Lib.hid J
 have VL : Hid (∀ u, Below w.heap.size w u -> Calls Tryz.prog 30 #[v] u fun e w' => e = .returned (.tuple #[.int .i64 (validF l).1, .int .i64 0]) /\ Below u.heap.size u w') := Lib.hid ((validF_ok l).2 hf ▸ J.vl)
 have PF : Hid (∀ u, Below w.heap.size w u -> Calls Tryz.prog 13 #[v, .int .i64 1099511627776] u fun e w' => PrintPost u w' e (linesF l, 0)) := Lib.hid (fun u hb => by have h := J.pr 1099511627776 u hb; rw [print_ok hf hl _ (Int.le_refl _)] at h; exact h)
 have HF := Lib.hid hf
 have k1 : decide (((linesF l).length : Int) <= 67108864) = true := decide_eq_true (by omega)
 have k1n : decide ((linesF l).length <= 67108864) = true := decide_eq_true hL
 have HL := Lib.hid hL
 have SQ := Lib.hid (fun (u : World) (v0 : Value) (hb : Below w.heap.size w u) (h0 : QView u v0 l) => sameQuads_t l v0 v u h0 (J.vw.below hb) (by omega))
 have k2 : decide (((linesF l).length : Int) <= most) = false := decide_eq_false (by omega)
 have k3 : decide (most < ((linesF l).length : Int)) = true := decide_eq_true hm
 have PM : Hid (∀ u, Below w.heap.size w u -> Calls Tryz.prog 13 #[v, .int .i64 most] u fun e w' => PrintPost u w' e ([], 1)) := Lib.hid (fun u hb => by have h := J.pr most u hb; rw [print_over hf _ hm] at h; exact h)
 have HS := Lib.hid hs
 clear J hf hL hm hs
 go_enter Tryz.func7, Tryz.ntmps7
 go_wp2_with (first
   | (go_at_call 29; (with_reducible refine HJ.out.aw.mono ?_); rintro e w1 ⟨rfl, hb1⟩; have HB1 := Lib.hid hb1; clear hb1)
   | (go_at_call 11; (with_reducible refine (HJ.out.hv _ HB1.out).mono ?_); rintro e w2 ⟨⟨hvy, rfl⟩, hb2⟩; have HB2 := Lib.hid (HB1.out.trans (hb2.mono HB1.out.size)); clear hb2)
   | (go_at_call 30; (with_reducible refine (VL.out _ HB2.out).mono ?_); rintro e w3 ⟨rfl, hb3⟩; have HB3 := Lib.hid (HB2.out.trans (hb3.mono HB2.out.size)); clear hb3)
   | (go_at_call 13; (with_reducible refine (PF.out _ HB3.out).mono ?_); rintro e w4 hp4; obtain ⟨a4, c4, rfl, ho4, hb4⟩ := hp4.open; have HB4 := Lib.hid (HB3.out.trans (hb4.mono HB3.out.size)); have HO4 := Lib.hid ho4; clear hb4 ho4 hp4)
   | (go_at_call 25; (with_reducible refine (HJ.out.po _ _ _ _ _ HB4.out HO4.out HF.out HL.out).mono ?_); rintro e w5 ⟨⟨pm, cm, rfl, hq5⟩, hb5⟩; have HB5 := Lib.hid (HB4.out.trans (hb5.mono HB4.out.size)); have HO5 := Lib.hid (HO4.out.below hb5); have HQ5 := Lib.hid hq5; clear hb5 hq5)
   | (go_at_call 27; (with_reducible refine (SQ.out _ _ HB5.out HQ5.out).mono ?_); rintro e w6 ⟨rfl, hb6⟩; have HB6 := Lib.hid (HB5.out.trans (hb6.mono HB5.out.size)); have HO6 := Lib.hid (HO5.out.below hb6); clear hb6)
   | (go_at_call 13; (with_reducible refine (PM.out _ HB6.out).mono ?_); rintro e w7 hp7; obtain ⟨a7, c7, rfl, ho7, hb7⟩ := hp7.open; have HB7 := Lib.hid (HB6.out.trans (hb7.mono HB6.out.size)); have bk4 := (HO6.out.below hb7).back; have bk7 := ho7.back; obtain ⟨cap, C, hc, hcv, hr⟩ := HJ.out.cs w7; have HC := Lib.hid hc; have HR := Lib.hid hr; clear hc hr; clear hb7 ho7 hp7)
   | (go_at_call 25; (with_reducible refine (HJ.out.ps _ _ _ HB7.out HC.out HR.out).mono ?_); rintro e w8 ⟨hP, hb8⟩; rw [HS.out] at hP; obtain ⟨ev, rfl, hF⟩ := hP; obtain ⟨eb, rfl, _, _⟩ := hF; have HB8 := Lib.hid (HB7.out.trans (hb8.mono HB7.out.size)); clear hb8 hcv))
 · go_ret
   exact ⟨rfl, HB2.out⟩
 · go_ret
   exact ⟨rfl, HB8.out⟩
set_option maxHeartbeats 4000000 in
theorem back_sn_short (l : List QuadL) (s : List UInt8) (v : Value) (most : Int) (w : World) (J : BIn l s v w) (hf : Fine l) (hl : l.length <= 524288) (hL : (linesF l).length <= 67108864) (hm : most < ((linesF l).length : Int)) (a : List QuadL) (hs : parseF s = .inl a) (hsl : s.length <= 1048575) (hLa : (linesF a).length <= 67108864) :
   Calls Tryz.prog 7 #[v, .string (B s), .int .i64 most] w fun e w' => e = .returned (.bool true) /\ Below w.heap.size w w' := by
 have HJ := Lib.hid J
 have VL : Hid (∀ u, Below w.heap.size w u -> Calls Tryz.prog 30 #[v] u fun e w' => e = .returned (.tuple #[.int .i64 (validF l).1, .int .i64 0]) /\ Below u.heap.size u w') := Lib.hid ((validF_ok l).2 hf ▸ J.vl)
 have PF : Hid (∀ u, Below w.heap.size w u -> Calls Tryz.prog 13 #[v, .int .i64 1099511627776] u fun e w' => PrintPost u w' e (linesF l, 0)) := Lib.hid (fun u hb => by have h := J.pr 1099511627776 u hb; rw [print_ok hf hl _ (Int.le_refl _)] at h; exact h)
 have HF := Lib.hid hf
 have k1 : decide (((linesF l).length : Int) <= 67108864) = true := decide_eq_true (by omega)
 have k1n : decide ((linesF l).length <= 67108864) = true := decide_eq_true hL
 have HL := Lib.hid hL
 have SQ := Lib.hid (fun (u : World) (v0 : Value) (hb : Below w.heap.size w u) (h0 : QView u v0 l) => sameQuads_t l v0 v u h0 (J.vw.below hb) (by omega))
 have k2 : decide (((linesF l).length : Int) <= most) = false := decide_eq_false (by omega)
 have k3 : decide (most < ((linesF l).length : Int)) = true := decide_eq_true hm
 have PM : Hid (∀ u, Below w.heap.size w u -> Calls Tryz.prog 13 #[v, .int .i64 most] u fun e w' => PrintPost u w' e ([], 1)) := Lib.hid (fun u hb => by have h := J.pr most u hb; rw [print_over hf _ hm] at h; exact h)
 have hfa : Fine a := parse_fine hs (by omega)
 have hna : Neat a := parse_neat hs hsl
 have HFA := Lib.hid hfa
 have HNA := Lib.hid hna
 have GP : Hid (∀ v u, Below w.heap.size w u -> QView u v a -> Calls Tryz.prog 13 #[v, .int .i64 1099511627776] u fun e w' => PrintPost u w' e (linesF a, 0)) := Lib.hid (fun v u hb hq => by have h := J.gp a v 1099511627776 u hb hq hna; rw [print_ok hfa hna.1 _ (Int.le_refl _)] at h; exact h)
 have GV : Hid (∀ v u, Below w.heap.size w u -> QView u v a -> Calls Tryz.prog 30 #[v] u fun e w' => e = .returned (.tuple #[.int .i64 (validF a).1, .int .i64 0]) /\ Below u.heap.size u w') := Lib.hid (fun v u hb hq => (validF_ok a).2 hfa ▸ J.gv a v u hb hq hna)
 have j1 : decide ((67108864 : Int) < ((linesF a).length : Int)) = false := decide_eq_false (by omega)
 have j1n : decide (67108864 < (linesF a).length) = false := decide_eq_false (by omega)
 have HLA := Lib.hid hLa
 have SQA := Lib.hid (fun (u : World) (v0 v1 : Value) (h0 : QView u v0 a) (h1 : QView u v1 a) => sameQuads_t a v0 v1 u h0 h1 (by have := hna.1; omega))
 have HS := Lib.hid hs
 clear J hf hL hm hfa hna hsl hLa hs
 go_enter Tryz.func7, Tryz.ntmps7
 go_wp2_with (first
   | (go_at_call 29; (with_reducible refine HJ.out.aw.mono ?_); rintro e w1 ⟨rfl, hb1⟩; have HB1 := Lib.hid hb1; clear hb1)
   | (go_at_call 11; (with_reducible refine (HJ.out.hv _ HB1.out).mono ?_); rintro e w2 ⟨⟨hvy, rfl⟩, hb2⟩; have HB2 := Lib.hid (HB1.out.trans (hb2.mono HB1.out.size)); clear hb2)
   | (go_at_call 30; (with_reducible refine (VL.out _ HB2.out).mono ?_); rintro e w3 ⟨rfl, hb3⟩; have HB3 := Lib.hid (HB2.out.trans (hb3.mono HB2.out.size)); clear hb3)
   | (go_at_call 13; (with_reducible refine (PF.out _ HB3.out).mono ?_); rintro e w4 hp4; obtain ⟨a4, c4, rfl, ho4, hb4⟩ := hp4.open; have HB4 := Lib.hid (HB3.out.trans (hb4.mono HB3.out.size)); have HO4 := Lib.hid ho4; clear hb4 ho4 hp4)
   | (go_at_call 25; (with_reducible refine (HJ.out.po _ _ _ _ _ HB4.out HO4.out HF.out HL.out).mono ?_); rintro e w5 ⟨⟨pm, cm, rfl, hq5⟩, hb5⟩; have HB5 := Lib.hid (HB4.out.trans (hb5.mono HB4.out.size)); have HO5 := Lib.hid (HO4.out.below hb5); have HQ5 := Lib.hid hq5; clear hb5 hq5)
   | (go_at_call 27; (with_reducible refine (SQ.out _ _ HB5.out HQ5.out).mono ?_); rintro e w6 ⟨rfl, hb6⟩; have HB6 := Lib.hid (HB5.out.trans (hb6.mono HB5.out.size)); have HO6 := Lib.hid (HO5.out.below hb6); clear hb6)
   | (go_at_call 13; (with_reducible refine (PM.out _ HB6.out).mono ?_); rintro e w7 hp7; obtain ⟨a7, c7, rfl, ho7, hb7⟩ := hp7.open; have HB7 := Lib.hid (HB6.out.trans (hb7.mono HB6.out.size)); have bk4 := (HO6.out.below hb7).back; have bk7 := ho7.back; obtain ⟨cap, C, hc, hcv, hr⟩ := HJ.out.cs w7; have HC := Lib.hid hc; have HR := Lib.hid hr; clear hc hr; clear hb7 ho7 hp7)
   | (go_at_call 25; (with_reducible refine (HJ.out.ps _ _ _ HB7.out HC.out HR.out).mono ?_); rintro e w8 ⟨hP, hb8⟩; rw [HS.out] at hP; obtain ⟨va, rfl, hF⟩ := hP; obtain ⟨pa, ca, rfl⟩ := hF.view.form; have HQ8 := Lib.hid hF.view; have HB8 := Lib.hid (HB7.out.trans (hb8.mono HB7.out.size)); clear hb8 hcv hF)
   | (go_at_call 13; (with_reducible refine (GP.out _ _ HB8.out HQ8.out).mono ?_); rintro e w9 hp9; obtain ⟨a9, c9, rfl, ho9, hb9⟩ := hp9.open; have HB9 := Lib.hid (HB8.out.trans (hb9.mono HB8.out.size)); have HQ9 := Lib.hid (HQ8.out.below hb9); have HO9 := Lib.hid ho9; clear hb9 ho9 hp9)
   | (go_at_call 30; (with_reducible refine (GV.out _ _ HB9.out HQ9.out).mono ?_); rintro e w10 ⟨rfl, hb10⟩; have HB10 := Lib.hid (HB9.out.trans (hb10.mono HB9.out.size)); have HQ10 := Lib.hid (HQ9.out.below hb10); have HO10 := Lib.hid (HO9.out.below hb10); clear hb10)
   | (go_at_call 25; (with_reducible refine (HJ.out.po _ _ _ _ _ HB10.out HO10.out HFA.out HLA.out).mono ?_); rintro e w11 ⟨⟨pn, cn, rfl, hq11⟩, hb11⟩; have HB11 := Lib.hid (HB10.out.trans (hb11.mono HB10.out.size)); have HQ11 := Lib.hid (HQ10.out.below hb11); have HN11 := Lib.hid hq11; clear hb11 hq11)
   | (go_at_call 27; (with_reducible refine (SQA.out _ _ _ HN11.out HQ11.out).mono ?_); rintro e w12 ⟨rfl, hb12⟩; have HB12 := Lib.hid (HB11.out.trans (hb12.mono HB11.out.size)); clear hb12))
 · go_ret
   exact ⟨rfl, HB2.out⟩
 · go_ret
   exact ⟨rfl, HB12.out⟩
set_option maxHeartbeats 4000000 in
theorem back_sn_long (l : List QuadL) (s : List UInt8) (v : Value) (most : Int) (w : World) (J : BIn l s v w) (hf : Fine l) (hl : l.length <= 524288) (hL : (linesF l).length <= 67108864) (hm : most < ((linesF l).length : Int)) (a : List QuadL) (hs : parseF s = .inl a) (hsl : s.length <= 1048575) (hLa : 67108864 < (linesF a).length) :
   Calls Tryz.prog 7 #[v, .string (B s), .int .i64 most] w fun e w' => e = .returned (.bool true) /\ Below w.heap.size w w' := by
 have HJ := Lib.hid J
 have VL : Hid (∀ u, Below w.heap.size w u -> Calls Tryz.prog 30 #[v] u fun e w' => e = .returned (.tuple #[.int .i64 (validF l).1, .int .i64 0]) /\ Below u.heap.size u w') := Lib.hid ((validF_ok l).2 hf ▸ J.vl)
 have PF : Hid (∀ u, Below w.heap.size w u -> Calls Tryz.prog 13 #[v, .int .i64 1099511627776] u fun e w' => PrintPost u w' e (linesF l, 0)) := Lib.hid (fun u hb => by have h := J.pr 1099511627776 u hb; rw [print_ok hf hl _ (Int.le_refl _)] at h; exact h)
 have HF := Lib.hid hf
 have k1 : decide (((linesF l).length : Int) <= 67108864) = true := decide_eq_true (by omega)
 have k1n : decide ((linesF l).length <= 67108864) = true := decide_eq_true hL
 have HL := Lib.hid hL
 have SQ := Lib.hid (fun (u : World) (v0 : Value) (hb : Below w.heap.size w u) (h0 : QView u v0 l) => sameQuads_t l v0 v u h0 (J.vw.below hb) (by omega))
 have k2 : decide (((linesF l).length : Int) <= most) = false := decide_eq_false (by omega)
 have k3 : decide (most < ((linesF l).length : Int)) = true := decide_eq_true hm
 have PM : Hid (∀ u, Below w.heap.size w u -> Calls Tryz.prog 13 #[v, .int .i64 most] u fun e w' => PrintPost u w' e ([], 1)) := Lib.hid (fun u hb => by have h := J.pr most u hb; rw [print_over hf _ hm] at h; exact h)
 have hfa : Fine a := parse_fine hs (by omega)
 have hna : Neat a := parse_neat hs hsl
 have HFA := Lib.hid hfa
 have HNA := Lib.hid hna
 have GP : Hid (∀ v u, Below w.heap.size w u -> QView u v a -> Calls Tryz.prog 13 #[v, .int .i64 1099511627776] u fun e w' => PrintPost u w' e (linesF a, 0)) := Lib.hid (fun v u hb hq => by have h := J.gp a v 1099511627776 u hb hq hna; rw [print_ok hfa hna.1 _ (Int.le_refl _)] at h; exact h)
 have GV : Hid (∀ v u, Below w.heap.size w u -> QView u v a -> Calls Tryz.prog 30 #[v] u fun e w' => e = .returned (.tuple #[.int .i64 (validF a).1, .int .i64 0]) /\ Below u.heap.size u w') := Lib.hid (fun v u hb hq => (validF_ok a).2 hfa ▸ J.gv a v u hb hq hna)
 have j1 : decide ((67108864 : Int) < ((linesF a).length : Int)) = true := decide_eq_true (by omega)
 have j1n : decide (67108864 < (linesF a).length) = true := decide_eq_true hLa
 have HLA := Lib.hid hLa
 have HS := Lib.hid hs
 clear J hf hL hm hfa hna hsl hLa hs
 go_enter Tryz.func7, Tryz.ntmps7
 go_wp2_with (first
   | (go_at_call 29; (with_reducible refine HJ.out.aw.mono ?_); rintro e w1 ⟨rfl, hb1⟩; have HB1 := Lib.hid hb1; clear hb1)
   | (go_at_call 11; (with_reducible refine (HJ.out.hv _ HB1.out).mono ?_); rintro e w2 ⟨⟨hvy, rfl⟩, hb2⟩; have HB2 := Lib.hid (HB1.out.trans (hb2.mono HB1.out.size)); clear hb2)
   | (go_at_call 30; (with_reducible refine (VL.out _ HB2.out).mono ?_); rintro e w3 ⟨rfl, hb3⟩; have HB3 := Lib.hid (HB2.out.trans (hb3.mono HB2.out.size)); clear hb3)
   | (go_at_call 13; (with_reducible refine (PF.out _ HB3.out).mono ?_); rintro e w4 hp4; obtain ⟨a4, c4, rfl, ho4, hb4⟩ := hp4.open; have HB4 := Lib.hid (HB3.out.trans (hb4.mono HB3.out.size)); have HO4 := Lib.hid ho4; clear hb4 ho4 hp4)
   | (go_at_call 25; (with_reducible refine (HJ.out.po _ _ _ _ _ HB4.out HO4.out HF.out HL.out).mono ?_); rintro e w5 ⟨⟨pm, cm, rfl, hq5⟩, hb5⟩; have HB5 := Lib.hid (HB4.out.trans (hb5.mono HB4.out.size)); have HO5 := Lib.hid (HO4.out.below hb5); have HQ5 := Lib.hid hq5; clear hb5 hq5)
   | (go_at_call 27; (with_reducible refine (SQ.out _ _ HB5.out HQ5.out).mono ?_); rintro e w6 ⟨rfl, hb6⟩; have HB6 := Lib.hid (HB5.out.trans (hb6.mono HB5.out.size)); have HO6 := Lib.hid (HO5.out.below hb6); clear hb6)
   | (go_at_call 13; (with_reducible refine (PM.out _ HB6.out).mono ?_); rintro e w7 hp7; obtain ⟨a7, c7, rfl, ho7, hb7⟩ := hp7.open; have HB7 := Lib.hid (HB6.out.trans (hb7.mono HB6.out.size)); have bk4 := (HO6.out.below hb7).back; have bk7 := ho7.back; obtain ⟨cap, C, hc, hcv, hr⟩ := HJ.out.cs w7; have HC := Lib.hid hc; have HR := Lib.hid hr; clear hc hr; clear hb7 ho7 hp7)
   | (go_at_call 25; (with_reducible refine (HJ.out.ps _ _ _ HB7.out HC.out HR.out).mono ?_); rintro e w8 ⟨hP, hb8⟩; rw [HS.out] at hP; obtain ⟨va, rfl, hF⟩ := hP; obtain ⟨pa, ca, rfl⟩ := hF.view.form; have HQ8 := Lib.hid hF.view; have HB8 := Lib.hid (HB7.out.trans (hb8.mono HB7.out.size)); clear hb8 hcv hF)
   | (go_at_call 13; (with_reducible refine (GP.out _ _ HB8.out HQ8.out).mono ?_); rintro e w9 hp9; obtain ⟨a9, c9, rfl, ho9, hb9⟩ := hp9.open; have HB9 := Lib.hid (HB8.out.trans (hb9.mono HB8.out.size)); have HQ9 := Lib.hid (HQ8.out.below hb9); have HO9 := Lib.hid ho9; clear hb9 ho9 hp9)
   | (go_at_call 30; (with_reducible refine (GV.out _ _ HB9.out HQ9.out).mono ?_); rintro e w10 ⟨rfl, hb10⟩; have HB10 := Lib.hid (HB9.out.trans (hb10.mono HB9.out.size)); have HQ10 := Lib.hid (HQ9.out.below hb10); have HO10 := Lib.hid (HO9.out.below hb10); clear hb10)
   | (go_at_call 25; (with_reducible refine (nqParse_long _ _ _ _ HLA.out).mono ?_); rintro e w11 ⟨⟨vn, evn, rfl⟩, hb11⟩; have HB11 := Lib.hid (HB10.out.trans (hb11.mono HB10.out.size)); clear hb11))
 · go_ret
   exact ⟨rfl, HB2.out⟩
 · go_ret
   exact ⟨rfl, HB11.out⟩
set_option maxHeartbeats 4000000 in
theorem back_xf_bad (l : List QuadL) (s : List UInt8) (v : Value) (most : Int) (w : World) (J : BIn l s v w) (hf : Fine l) (hl : l.length <= 524288) (hL : 67108864 < (linesF l).length) (hm : ((linesF l).length : Int) <= most) (p : Nat) (c : Int) (hs : parseF s = .inr (p, c)) :
   Calls Tryz.prog 7 #[v, .string (B s), .int .i64 most] w fun e w' => e = .returned (.bool true) /\ Below w.heap.size w w' := by
 have HJ := Lib.hid J
 have VL : Hid (∀ u, Below w.heap.size w u -> Calls Tryz.prog 30 #[v] u fun e w' => e = .returned (.tuple #[.int .i64 (validF l).1, .int .i64 0]) /\ Below u.heap.size u w') := Lib.hid ((validF_ok l).2 hf ▸ J.vl)
 have PF : Hid (∀ u, Below w.heap.size w u -> Calls Tryz.prog 13 #[v, .int .i64 1099511627776] u fun e w' => PrintPost u w' e (linesF l, 0)) := Lib.hid (fun u hb => by have h := J.pr 1099511627776 u hb; rw [print_ok hf hl _ (Int.le_refl _)] at h; exact h)
 have HF := Lib.hid hf
 have k1 : decide (((linesF l).length : Int) <= 67108864) = false := decide_eq_false (by omega)
 have k1n : decide ((linesF l).length <= 67108864) = false := decide_eq_false (by omega)
 have HL := Lib.hid hL
 have k2 : decide (((linesF l).length : Int) <= most) = true := decide_eq_true hm
 have k3 : decide (most < ((linesF l).length : Int)) = false := decide_eq_false (by omega)
 have PM : Hid (∀ u, Below w.heap.size w u -> Calls Tryz.prog 13 #[v, .int .i64 most] u fun e w' => PrintPost u w' e (linesF l, 0)) := Lib.hid (fun u hb => by have h := J.pr most u hb; rw [print_fits hf _ hm] at h; exact h)
 have HS := Lib.hid hs
 clear J hf hL hm hs
 go_enter Tryz.func7, Tryz.ntmps7
 go_wp2_with (first
   | (go_at_call 29; (with_reducible refine HJ.out.aw.mono ?_); rintro e w1 ⟨rfl, hb1⟩; have HB1 := Lib.hid hb1; clear hb1)
   | (go_at_call 11; (with_reducible refine (HJ.out.hv _ HB1.out).mono ?_); rintro e w2 ⟨⟨hvy, rfl⟩, hb2⟩; have HB2 := Lib.hid (HB1.out.trans (hb2.mono HB1.out.size)); clear hb2)
   | (go_at_call 30; (with_reducible refine (VL.out _ HB2.out).mono ?_); rintro e w3 ⟨rfl, hb3⟩; have HB3 := Lib.hid (HB2.out.trans (hb3.mono HB2.out.size)); clear hb3)
   | (go_at_call 13; (with_reducible refine (PF.out _ HB3.out).mono ?_); rintro e w4 hp4; obtain ⟨a4, c4, rfl, ho4, hb4⟩ := hp4.open; have HB4 := Lib.hid (HB3.out.trans (hb4.mono HB3.out.size)); have HO4 := Lib.hid ho4; clear hb4 ho4 hp4)
   | (go_at_call 25; (with_reducible refine (nqParse_long _ _ _ _ HL.out).mono ?_); rintro e w5 ⟨⟨vm, evm, rfl⟩, hb5⟩; have HB5 := Lib.hid (HB4.out.trans (hb5.mono HB4.out.size)); have HO5 := Lib.hid (HO4.out.below hb5); clear hb5)
   | (go_at_call 13; (with_reducible refine (PM.out _ HB5.out).mono ?_); rintro e w7 hp7; obtain ⟨a7, c7, rfl, ho7, hb7⟩ := hp7.open; have HB7 := Lib.hid (HB5.out.trans (hb7.mono HB5.out.size)); have bk4 := (HO5.out.below hb7).back; have bk7 := ho7.back; obtain ⟨cap, C, hc, hcv, hr⟩ := HJ.out.cs w7; have HC := Lib.hid hc; have HR := Lib.hid hr; clear hc hr; clear hb7 ho7 hp7)
   | (go_at_call 25; (with_reducible refine (HJ.out.ps _ _ _ HB7.out HC.out HR.out).mono ?_); rintro e w8 ⟨hP, hb8⟩; rw [HS.out] at hP; obtain ⟨ev, rfl, hF⟩ := hP; obtain ⟨eb, rfl, _, _⟩ := hF; have HB8 := Lib.hid (HB7.out.trans (hb8.mono HB7.out.size)); clear hb8 hcv))
 · go_ret
   exact ⟨rfl, HB2.out⟩
 · go_ret
   exact ⟨rfl, HB8.out⟩
set_option maxHeartbeats 4000000 in
theorem back_xf_short (l : List QuadL) (s : List UInt8) (v : Value) (most : Int) (w : World) (J : BIn l s v w) (hf : Fine l) (hl : l.length <= 524288) (hL : 67108864 < (linesF l).length) (hm : ((linesF l).length : Int) <= most) (a : List QuadL) (hs : parseF s = .inl a) (hsl : s.length <= 1048575) (hLa : (linesF a).length <= 67108864) :
   Calls Tryz.prog 7 #[v, .string (B s), .int .i64 most] w fun e w' => e = .returned (.bool true) /\ Below w.heap.size w w' := by
 have HJ := Lib.hid J
 have VL : Hid (∀ u, Below w.heap.size w u -> Calls Tryz.prog 30 #[v] u fun e w' => e = .returned (.tuple #[.int .i64 (validF l).1, .int .i64 0]) /\ Below u.heap.size u w') := Lib.hid ((validF_ok l).2 hf ▸ J.vl)
 have PF : Hid (∀ u, Below w.heap.size w u -> Calls Tryz.prog 13 #[v, .int .i64 1099511627776] u fun e w' => PrintPost u w' e (linesF l, 0)) := Lib.hid (fun u hb => by have h := J.pr 1099511627776 u hb; rw [print_ok hf hl _ (Int.le_refl _)] at h; exact h)
 have HF := Lib.hid hf
 have k1 : decide (((linesF l).length : Int) <= 67108864) = false := decide_eq_false (by omega)
 have k1n : decide ((linesF l).length <= 67108864) = false := decide_eq_false (by omega)
 have HL := Lib.hid hL
 have k2 : decide (((linesF l).length : Int) <= most) = true := decide_eq_true hm
 have k3 : decide (most < ((linesF l).length : Int)) = false := decide_eq_false (by omega)
 have PM : Hid (∀ u, Below w.heap.size w u -> Calls Tryz.prog 13 #[v, .int .i64 most] u fun e w' => PrintPost u w' e (linesF l, 0)) := Lib.hid (fun u hb => by have h := J.pr most u hb; rw [print_fits hf _ hm] at h; exact h)
 have hfa : Fine a := parse_fine hs (by omega)
 have hna : Neat a := parse_neat hs hsl
 have HFA := Lib.hid hfa
 have HNA := Lib.hid hna
 have GP : Hid (∀ v u, Below w.heap.size w u -> QView u v a -> Calls Tryz.prog 13 #[v, .int .i64 1099511627776] u fun e w' => PrintPost u w' e (linesF a, 0)) := Lib.hid (fun v u hb hq => by have h := J.gp a v 1099511627776 u hb hq hna; rw [print_ok hfa hna.1 _ (Int.le_refl _)] at h; exact h)
 have GV : Hid (∀ v u, Below w.heap.size w u -> QView u v a -> Calls Tryz.prog 30 #[v] u fun e w' => e = .returned (.tuple #[.int .i64 (validF a).1, .int .i64 0]) /\ Below u.heap.size u w') := Lib.hid (fun v u hb hq => (validF_ok a).2 hfa ▸ J.gv a v u hb hq hna)
 have j1 : decide ((67108864 : Int) < ((linesF a).length : Int)) = false := decide_eq_false (by omega)
 have j1n : decide (67108864 < (linesF a).length) = false := decide_eq_false (by omega)
 have HLA := Lib.hid hLa
 have SQA := Lib.hid (fun (u : World) (v0 v1 : Value) (h0 : QView u v0 a) (h1 : QView u v1 a) => sameQuads_t a v0 v1 u h0 h1 (by have := hna.1; omega))
 have HS := Lib.hid hs
 clear J hf hL hm hfa hna hsl hLa hs
 go_enter Tryz.func7, Tryz.ntmps7
 go_wp2_with (first
   | (go_at_call 29; (with_reducible refine HJ.out.aw.mono ?_); rintro e w1 ⟨rfl, hb1⟩; have HB1 := Lib.hid hb1; clear hb1)
   | (go_at_call 11; (with_reducible refine (HJ.out.hv _ HB1.out).mono ?_); rintro e w2 ⟨⟨hvy, rfl⟩, hb2⟩; have HB2 := Lib.hid (HB1.out.trans (hb2.mono HB1.out.size)); clear hb2)
   | (go_at_call 30; (with_reducible refine (VL.out _ HB2.out).mono ?_); rintro e w3 ⟨rfl, hb3⟩; have HB3 := Lib.hid (HB2.out.trans (hb3.mono HB2.out.size)); clear hb3)
   | (go_at_call 13; (with_reducible refine (PF.out _ HB3.out).mono ?_); rintro e w4 hp4; obtain ⟨a4, c4, rfl, ho4, hb4⟩ := hp4.open; have HB4 := Lib.hid (HB3.out.trans (hb4.mono HB3.out.size)); have HO4 := Lib.hid ho4; clear hb4 ho4 hp4)
   | (go_at_call 25; (with_reducible refine (nqParse_long _ _ _ _ HL.out).mono ?_); rintro e w5 ⟨⟨vm, evm, rfl⟩, hb5⟩; have HB5 := Lib.hid (HB4.out.trans (hb5.mono HB4.out.size)); have HO5 := Lib.hid (HO4.out.below hb5); clear hb5)
   | (go_at_call 13; (with_reducible refine (PM.out _ HB5.out).mono ?_); rintro e w7 hp7; obtain ⟨a7, c7, rfl, ho7, hb7⟩ := hp7.open; have HB7 := Lib.hid (HB5.out.trans (hb7.mono HB5.out.size)); have bk4 := (HO5.out.below hb7).back; have bk7 := ho7.back; obtain ⟨cap, C, hc, hcv, hr⟩ := HJ.out.cs w7; have HC := Lib.hid hc; have HR := Lib.hid hr; clear hc hr; clear hb7 ho7 hp7)
   | (go_at_call 25; (with_reducible refine (HJ.out.ps _ _ _ HB7.out HC.out HR.out).mono ?_); rintro e w8 ⟨hP, hb8⟩; rw [HS.out] at hP; obtain ⟨va, rfl, hF⟩ := hP; obtain ⟨pa, ca, rfl⟩ := hF.view.form; have HQ8 := Lib.hid hF.view; have HB8 := Lib.hid (HB7.out.trans (hb8.mono HB7.out.size)); clear hb8 hcv hF)
   | (go_at_call 13; (with_reducible refine (GP.out _ _ HB8.out HQ8.out).mono ?_); rintro e w9 hp9; obtain ⟨a9, c9, rfl, ho9, hb9⟩ := hp9.open; have HB9 := Lib.hid (HB8.out.trans (hb9.mono HB8.out.size)); have HQ9 := Lib.hid (HQ8.out.below hb9); have HO9 := Lib.hid ho9; clear hb9 ho9 hp9)
   | (go_at_call 30; (with_reducible refine (GV.out _ _ HB9.out HQ9.out).mono ?_); rintro e w10 ⟨rfl, hb10⟩; have HB10 := Lib.hid (HB9.out.trans (hb10.mono HB9.out.size)); have HQ10 := Lib.hid (HQ9.out.below hb10); have HO10 := Lib.hid (HO9.out.below hb10); clear hb10)
   | (go_at_call 25; (with_reducible refine (HJ.out.po _ _ _ _ _ HB10.out HO10.out HFA.out HLA.out).mono ?_); rintro e w11 ⟨⟨pn, cn, rfl, hq11⟩, hb11⟩; have HB11 := Lib.hid (HB10.out.trans (hb11.mono HB10.out.size)); have HQ11 := Lib.hid (HQ10.out.below hb11); have HN11 := Lib.hid hq11; clear hb11 hq11)
   | (go_at_call 27; (with_reducible refine (SQA.out _ _ _ HN11.out HQ11.out).mono ?_); rintro e w12 ⟨rfl, hb12⟩; have HB12 := Lib.hid (HB11.out.trans (hb12.mono HB11.out.size)); clear hb12))
 · go_ret
   exact ⟨rfl, HB2.out⟩
 · go_ret
   exact ⟨rfl, HB12.out⟩
set_option maxHeartbeats 4000000 in
theorem back_xf_long (l : List QuadL) (s : List UInt8) (v : Value) (most : Int) (w : World) (J : BIn l s v w) (hf : Fine l) (hl : l.length <= 524288) (hL : 67108864 < (linesF l).length) (hm : ((linesF l).length : Int) <= most) (a : List QuadL) (hs : parseF s = .inl a) (hsl : s.length <= 1048575) (hLa : 67108864 < (linesF a).length) :
   Calls Tryz.prog 7 #[v, .string (B s), .int .i64 most] w fun e w' => e = .returned (.bool true) /\ Below w.heap.size w w' := by
 have HJ := Lib.hid J
 have VL : Hid (∀ u, Below w.heap.size w u -> Calls Tryz.prog 30 #[v] u fun e w' => e = .returned (.tuple #[.int .i64 (validF l).1, .int .i64 0]) /\ Below u.heap.size u w') := Lib.hid ((validF_ok l).2 hf ▸ J.vl)
 have PF : Hid (∀ u, Below w.heap.size w u -> Calls Tryz.prog 13 #[v, .int .i64 1099511627776] u fun e w' => PrintPost u w' e (linesF l, 0)) := Lib.hid (fun u hb => by have h := J.pr 1099511627776 u hb; rw [print_ok hf hl _ (Int.le_refl _)] at h; exact h)
 have HF := Lib.hid hf
 have k1 : decide (((linesF l).length : Int) <= 67108864) = false := decide_eq_false (by omega)
 have k1n : decide ((linesF l).length <= 67108864) = false := decide_eq_false (by omega)
 have HL := Lib.hid hL
 have k2 : decide (((linesF l).length : Int) <= most) = true := decide_eq_true hm
 have k3 : decide (most < ((linesF l).length : Int)) = false := decide_eq_false (by omega)
 have PM : Hid (∀ u, Below w.heap.size w u -> Calls Tryz.prog 13 #[v, .int .i64 most] u fun e w' => PrintPost u w' e (linesF l, 0)) := Lib.hid (fun u hb => by have h := J.pr most u hb; rw [print_fits hf _ hm] at h; exact h)
 have hfa : Fine a := parse_fine hs (by omega)
 have hna : Neat a := parse_neat hs hsl
 have HFA := Lib.hid hfa
 have HNA := Lib.hid hna
 have GP : Hid (∀ v u, Below w.heap.size w u -> QView u v a -> Calls Tryz.prog 13 #[v, .int .i64 1099511627776] u fun e w' => PrintPost u w' e (linesF a, 0)) := Lib.hid (fun v u hb hq => by have h := J.gp a v 1099511627776 u hb hq hna; rw [print_ok hfa hna.1 _ (Int.le_refl _)] at h; exact h)
 have GV : Hid (∀ v u, Below w.heap.size w u -> QView u v a -> Calls Tryz.prog 30 #[v] u fun e w' => e = .returned (.tuple #[.int .i64 (validF a).1, .int .i64 0]) /\ Below u.heap.size u w') := Lib.hid (fun v u hb hq => (validF_ok a).2 hfa ▸ J.gv a v u hb hq hna)
 have j1 : decide ((67108864 : Int) < ((linesF a).length : Int)) = true := decide_eq_true (by omega)
 have j1n : decide (67108864 < (linesF a).length) = true := decide_eq_true hLa
 have HLA := Lib.hid hLa
 have HS := Lib.hid hs
 clear J hf hL hm hfa hna hsl hLa hs
 go_enter Tryz.func7, Tryz.ntmps7
 go_wp2_with (first
   | (go_at_call 29; (with_reducible refine HJ.out.aw.mono ?_); rintro e w1 ⟨rfl, hb1⟩; have HB1 := Lib.hid hb1; clear hb1)
   | (go_at_call 11; (with_reducible refine (HJ.out.hv _ HB1.out).mono ?_); rintro e w2 ⟨⟨hvy, rfl⟩, hb2⟩; have HB2 := Lib.hid (HB1.out.trans (hb2.mono HB1.out.size)); clear hb2)
   | (go_at_call 30; (with_reducible refine (VL.out _ HB2.out).mono ?_); rintro e w3 ⟨rfl, hb3⟩; have HB3 := Lib.hid (HB2.out.trans (hb3.mono HB2.out.size)); clear hb3)
   | (go_at_call 13; (with_reducible refine (PF.out _ HB3.out).mono ?_); rintro e w4 hp4; obtain ⟨a4, c4, rfl, ho4, hb4⟩ := hp4.open; have HB4 := Lib.hid (HB3.out.trans (hb4.mono HB3.out.size)); have HO4 := Lib.hid ho4; clear hb4 ho4 hp4)
   | (go_at_call 25; (with_reducible refine (nqParse_long _ _ _ _ HL.out).mono ?_); rintro e w5 ⟨⟨vm, evm, rfl⟩, hb5⟩; have HB5 := Lib.hid (HB4.out.trans (hb5.mono HB4.out.size)); have HO5 := Lib.hid (HO4.out.below hb5); clear hb5)
   | (go_at_call 13; (with_reducible refine (PM.out _ HB5.out).mono ?_); rintro e w7 hp7; obtain ⟨a7, c7, rfl, ho7, hb7⟩ := hp7.open; have HB7 := Lib.hid (HB5.out.trans (hb7.mono HB5.out.size)); have bk4 := (HO5.out.below hb7).back; have bk7 := ho7.back; obtain ⟨cap, C, hc, hcv, hr⟩ := HJ.out.cs w7; have HC := Lib.hid hc; have HR := Lib.hid hr; clear hc hr; clear hb7 ho7 hp7)
   | (go_at_call 25; (with_reducible refine (HJ.out.ps _ _ _ HB7.out HC.out HR.out).mono ?_); rintro e w8 ⟨hP, hb8⟩; rw [HS.out] at hP; obtain ⟨va, rfl, hF⟩ := hP; obtain ⟨pa, ca, rfl⟩ := hF.view.form; have HQ8 := Lib.hid hF.view; have HB8 := Lib.hid (HB7.out.trans (hb8.mono HB7.out.size)); clear hb8 hcv hF)
   | (go_at_call 13; (with_reducible refine (GP.out _ _ HB8.out HQ8.out).mono ?_); rintro e w9 hp9; obtain ⟨a9, c9, rfl, ho9, hb9⟩ := hp9.open; have HB9 := Lib.hid (HB8.out.trans (hb9.mono HB8.out.size)); have HQ9 := Lib.hid (HQ8.out.below hb9); have HO9 := Lib.hid ho9; clear hb9 ho9 hp9)
   | (go_at_call 30; (with_reducible refine (GV.out _ _ HB9.out HQ9.out).mono ?_); rintro e w10 ⟨rfl, hb10⟩; have HB10 := Lib.hid (HB9.out.trans (hb10.mono HB9.out.size)); have HQ10 := Lib.hid (HQ9.out.below hb10); have HO10 := Lib.hid (HO9.out.below hb10); clear hb10)
   | (go_at_call 25; (with_reducible refine (nqParse_long _ _ _ _ HLA.out).mono ?_); rintro e w11 ⟨⟨vn, evn, rfl⟩, hb11⟩; have HB11 := Lib.hid (HB10.out.trans (hb11.mono HB10.out.size)); clear hb11))
 · go_ret
   exact ⟨rfl, HB2.out⟩
 · go_ret
   exact ⟨rfl, HB11.out⟩
set_option maxHeartbeats 4000000 in
theorem back_xn_bad (l : List QuadL) (s : List UInt8) (v : Value) (most : Int) (w : World) (J : BIn l s v w) (hf : Fine l) (hl : l.length <= 524288) (hL : 67108864 < (linesF l).length) (hm : most < ((linesF l).length : Int)) (p : Nat) (c : Int) (hs : parseF s = .inr (p, c)) :
   Calls Tryz.prog 7 #[v, .string (B s), .int .i64 most] w fun e w' => e = .returned (.bool true) /\ Below w.heap.size w w' := by
 have HJ := Lib.hid J
 have VL : Hid (∀ u, Below w.heap.size w u -> Calls Tryz.prog 30 #[v] u fun e w' => e = .returned (.tuple #[.int .i64 (validF l).1, .int .i64 0]) /\ Below u.heap.size u w') := Lib.hid ((validF_ok l).2 hf ▸ J.vl)
 have PF : Hid (∀ u, Below w.heap.size w u -> Calls Tryz.prog 13 #[v, .int .i64 1099511627776] u fun e w' => PrintPost u w' e (linesF l, 0)) := Lib.hid (fun u hb => by have h := J.pr 1099511627776 u hb; rw [print_ok hf hl _ (Int.le_refl _)] at h; exact h)
 have HF := Lib.hid hf
 have k1 : decide (((linesF l).length : Int) <= 67108864) = false := decide_eq_false (by omega)
 have k1n : decide ((linesF l).length <= 67108864) = false := decide_eq_false (by omega)
 have HL := Lib.hid hL
 have k2 : decide (((linesF l).length : Int) <= most) = false := decide_eq_false (by omega)
 have k3 : decide (most < ((linesF l).length : Int)) = true := decide_eq_true hm
 have PM : Hid (∀ u, Below w.heap.size w u -> Calls Tryz.prog 13 #[v, .int .i64 most] u fun e w' => PrintPost u w' e ([], 1)) := Lib.hid (fun u hb => by have h := J.pr most u hb; rw [print_over hf _ hm] at h; exact h)
 have HS := Lib.hid hs
 clear J hf hL hm hs
 go_enter Tryz.func7, Tryz.ntmps7
 go_wp2_with (first
   | (go_at_call 29; (with_reducible refine HJ.out.aw.mono ?_); rintro e w1 ⟨rfl, hb1⟩; have HB1 := Lib.hid hb1; clear hb1)
   | (go_at_call 11; (with_reducible refine (HJ.out.hv _ HB1.out).mono ?_); rintro e w2 ⟨⟨hvy, rfl⟩, hb2⟩; have HB2 := Lib.hid (HB1.out.trans (hb2.mono HB1.out.size)); clear hb2)
   | (go_at_call 30; (with_reducible refine (VL.out _ HB2.out).mono ?_); rintro e w3 ⟨rfl, hb3⟩; have HB3 := Lib.hid (HB2.out.trans (hb3.mono HB2.out.size)); clear hb3)
   | (go_at_call 13; (with_reducible refine (PF.out _ HB3.out).mono ?_); rintro e w4 hp4; obtain ⟨a4, c4, rfl, ho4, hb4⟩ := hp4.open; have HB4 := Lib.hid (HB3.out.trans (hb4.mono HB3.out.size)); have HO4 := Lib.hid ho4; clear hb4 ho4 hp4)
   | (go_at_call 25; (with_reducible refine (nqParse_long _ _ _ _ HL.out).mono ?_); rintro e w5 ⟨⟨vm, evm, rfl⟩, hb5⟩; have HB5 := Lib.hid (HB4.out.trans (hb5.mono HB4.out.size)); have HO5 := Lib.hid (HO4.out.below hb5); clear hb5)
   | (go_at_call 13; (with_reducible refine (PM.out _ HB5.out).mono ?_); rintro e w7 hp7; obtain ⟨a7, c7, rfl, ho7, hb7⟩ := hp7.open; have HB7 := Lib.hid (HB5.out.trans (hb7.mono HB5.out.size)); have bk4 := (HO5.out.below hb7).back; have bk7 := ho7.back; obtain ⟨cap, C, hc, hcv, hr⟩ := HJ.out.cs w7; have HC := Lib.hid hc; have HR := Lib.hid hr; clear hc hr; clear hb7 ho7 hp7)
   | (go_at_call 25; (with_reducible refine (HJ.out.ps _ _ _ HB7.out HC.out HR.out).mono ?_); rintro e w8 ⟨hP, hb8⟩; rw [HS.out] at hP; obtain ⟨ev, rfl, hF⟩ := hP; obtain ⟨eb, rfl, _, _⟩ := hF; have HB8 := Lib.hid (HB7.out.trans (hb8.mono HB7.out.size)); clear hb8 hcv))
 · go_ret
   exact ⟨rfl, HB2.out⟩
 · go_ret
   exact ⟨rfl, HB8.out⟩
set_option maxHeartbeats 4000000 in
theorem back_xn_short (l : List QuadL) (s : List UInt8) (v : Value) (most : Int) (w : World) (J : BIn l s v w) (hf : Fine l) (hl : l.length <= 524288) (hL : 67108864 < (linesF l).length) (hm : most < ((linesF l).length : Int)) (a : List QuadL) (hs : parseF s = .inl a) (hsl : s.length <= 1048575) (hLa : (linesF a).length <= 67108864) :
   Calls Tryz.prog 7 #[v, .string (B s), .int .i64 most] w fun e w' => e = .returned (.bool true) /\ Below w.heap.size w w' := by
 have HJ := Lib.hid J
 have VL : Hid (∀ u, Below w.heap.size w u -> Calls Tryz.prog 30 #[v] u fun e w' => e = .returned (.tuple #[.int .i64 (validF l).1, .int .i64 0]) /\ Below u.heap.size u w') := Lib.hid ((validF_ok l).2 hf ▸ J.vl)
 have PF : Hid (∀ u, Below w.heap.size w u -> Calls Tryz.prog 13 #[v, .int .i64 1099511627776] u fun e w' => PrintPost u w' e (linesF l, 0)) := Lib.hid (fun u hb => by have h := J.pr 1099511627776 u hb; rw [print_ok hf hl _ (Int.le_refl _)] at h; exact h)
 have HF := Lib.hid hf
 have k1 : decide (((linesF l).length : Int) <= 67108864) = false := decide_eq_false (by omega)
 have k1n : decide ((linesF l).length <= 67108864) = false := decide_eq_false (by omega)
 have HL := Lib.hid hL
 have k2 : decide (((linesF l).length : Int) <= most) = false := decide_eq_false (by omega)
 have k3 : decide (most < ((linesF l).length : Int)) = true := decide_eq_true hm
 have PM : Hid (∀ u, Below w.heap.size w u -> Calls Tryz.prog 13 #[v, .int .i64 most] u fun e w' => PrintPost u w' e ([], 1)) := Lib.hid (fun u hb => by have h := J.pr most u hb; rw [print_over hf _ hm] at h; exact h)
 have hfa : Fine a := parse_fine hs (by omega)
 have hna : Neat a := parse_neat hs hsl
 have HFA := Lib.hid hfa
 have HNA := Lib.hid hna
 have GP : Hid (∀ v u, Below w.heap.size w u -> QView u v a -> Calls Tryz.prog 13 #[v, .int .i64 1099511627776] u fun e w' => PrintPost u w' e (linesF a, 0)) := Lib.hid (fun v u hb hq => by have h := J.gp a v 1099511627776 u hb hq hna; rw [print_ok hfa hna.1 _ (Int.le_refl _)] at h; exact h)
 have GV : Hid (∀ v u, Below w.heap.size w u -> QView u v a -> Calls Tryz.prog 30 #[v] u fun e w' => e = .returned (.tuple #[.int .i64 (validF a).1, .int .i64 0]) /\ Below u.heap.size u w') := Lib.hid (fun v u hb hq => (validF_ok a).2 hfa ▸ J.gv a v u hb hq hna)
 have j1 : decide ((67108864 : Int) < ((linesF a).length : Int)) = false := decide_eq_false (by omega)
 have j1n : decide (67108864 < (linesF a).length) = false := decide_eq_false (by omega)
 have HLA := Lib.hid hLa
 have SQA := Lib.hid (fun (u : World) (v0 v1 : Value) (h0 : QView u v0 a) (h1 : QView u v1 a) => sameQuads_t a v0 v1 u h0 h1 (by have := hna.1; omega))
 have HS := Lib.hid hs
 clear J hf hL hm hfa hna hsl hLa hs
 go_enter Tryz.func7, Tryz.ntmps7
 go_wp2_with (first
   | (go_at_call 29; (with_reducible refine HJ.out.aw.mono ?_); rintro e w1 ⟨rfl, hb1⟩; have HB1 := Lib.hid hb1; clear hb1)
   | (go_at_call 11; (with_reducible refine (HJ.out.hv _ HB1.out).mono ?_); rintro e w2 ⟨⟨hvy, rfl⟩, hb2⟩; have HB2 := Lib.hid (HB1.out.trans (hb2.mono HB1.out.size)); clear hb2)
   | (go_at_call 30; (with_reducible refine (VL.out _ HB2.out).mono ?_); rintro e w3 ⟨rfl, hb3⟩; have HB3 := Lib.hid (HB2.out.trans (hb3.mono HB2.out.size)); clear hb3)
   | (go_at_call 13; (with_reducible refine (PF.out _ HB3.out).mono ?_); rintro e w4 hp4; obtain ⟨a4, c4, rfl, ho4, hb4⟩ := hp4.open; have HB4 := Lib.hid (HB3.out.trans (hb4.mono HB3.out.size)); have HO4 := Lib.hid ho4; clear hb4 ho4 hp4)
   | (go_at_call 25; (with_reducible refine (nqParse_long _ _ _ _ HL.out).mono ?_); rintro e w5 ⟨⟨vm, evm, rfl⟩, hb5⟩; have HB5 := Lib.hid (HB4.out.trans (hb5.mono HB4.out.size)); have HO5 := Lib.hid (HO4.out.below hb5); clear hb5)
   | (go_at_call 13; (with_reducible refine (PM.out _ HB5.out).mono ?_); rintro e w7 hp7; obtain ⟨a7, c7, rfl, ho7, hb7⟩ := hp7.open; have HB7 := Lib.hid (HB5.out.trans (hb7.mono HB5.out.size)); have bk4 := (HO5.out.below hb7).back; have bk7 := ho7.back; obtain ⟨cap, C, hc, hcv, hr⟩ := HJ.out.cs w7; have HC := Lib.hid hc; have HR := Lib.hid hr; clear hc hr; clear hb7 ho7 hp7)
   | (go_at_call 25; (with_reducible refine (HJ.out.ps _ _ _ HB7.out HC.out HR.out).mono ?_); rintro e w8 ⟨hP, hb8⟩; rw [HS.out] at hP; obtain ⟨va, rfl, hF⟩ := hP; obtain ⟨pa, ca, rfl⟩ := hF.view.form; have HQ8 := Lib.hid hF.view; have HB8 := Lib.hid (HB7.out.trans (hb8.mono HB7.out.size)); clear hb8 hcv hF)
   | (go_at_call 13; (with_reducible refine (GP.out _ _ HB8.out HQ8.out).mono ?_); rintro e w9 hp9; obtain ⟨a9, c9, rfl, ho9, hb9⟩ := hp9.open; have HB9 := Lib.hid (HB8.out.trans (hb9.mono HB8.out.size)); have HQ9 := Lib.hid (HQ8.out.below hb9); have HO9 := Lib.hid ho9; clear hb9 ho9 hp9)
   | (go_at_call 30; (with_reducible refine (GV.out _ _ HB9.out HQ9.out).mono ?_); rintro e w10 ⟨rfl, hb10⟩; have HB10 := Lib.hid (HB9.out.trans (hb10.mono HB9.out.size)); have HQ10 := Lib.hid (HQ9.out.below hb10); have HO10 := Lib.hid (HO9.out.below hb10); clear hb10)
   | (go_at_call 25; (with_reducible refine (HJ.out.po _ _ _ _ _ HB10.out HO10.out HFA.out HLA.out).mono ?_); rintro e w11 ⟨⟨pn, cn, rfl, hq11⟩, hb11⟩; have HB11 := Lib.hid (HB10.out.trans (hb11.mono HB10.out.size)); have HQ11 := Lib.hid (HQ10.out.below hb11); have HN11 := Lib.hid hq11; clear hb11 hq11)
   | (go_at_call 27; (with_reducible refine (SQA.out _ _ _ HN11.out HQ11.out).mono ?_); rintro e w12 ⟨rfl, hb12⟩; have HB12 := Lib.hid (HB11.out.trans (hb12.mono HB11.out.size)); clear hb12))
 · go_ret
   exact ⟨rfl, HB2.out⟩
 · go_ret
   exact ⟨rfl, HB12.out⟩
set_option maxHeartbeats 4000000 in
theorem back_xn_long (l : List QuadL) (s : List UInt8) (v : Value) (most : Int) (w : World) (J : BIn l s v w) (hf : Fine l) (hl : l.length <= 524288) (hL : 67108864 < (linesF l).length) (hm : most < ((linesF l).length : Int)) (a : List QuadL) (hs : parseF s = .inl a) (hsl : s.length <= 1048575) (hLa : 67108864 < (linesF a).length) :
   Calls Tryz.prog 7 #[v, .string (B s), .int .i64 most] w fun e w' => e = .returned (.bool true) /\ Below w.heap.size w w' := by
 have HJ := Lib.hid J
 have VL : Hid (∀ u, Below w.heap.size w u -> Calls Tryz.prog 30 #[v] u fun e w' => e = .returned (.tuple #[.int .i64 (validF l).1, .int .i64 0]) /\ Below u.heap.size u w') := Lib.hid ((validF_ok l).2 hf ▸ J.vl)
 have PF : Hid (∀ u, Below w.heap.size w u -> Calls Tryz.prog 13 #[v, .int .i64 1099511627776] u fun e w' => PrintPost u w' e (linesF l, 0)) := Lib.hid (fun u hb => by have h := J.pr 1099511627776 u hb; rw [print_ok hf hl _ (Int.le_refl _)] at h; exact h)
 have HF := Lib.hid hf
 have k1 : decide (((linesF l).length : Int) <= 67108864) = false := decide_eq_false (by omega)
 have k1n : decide ((linesF l).length <= 67108864) = false := decide_eq_false (by omega)
 have HL := Lib.hid hL
 have k2 : decide (((linesF l).length : Int) <= most) = false := decide_eq_false (by omega)
 have k3 : decide (most < ((linesF l).length : Int)) = true := decide_eq_true hm
 have PM : Hid (∀ u, Below w.heap.size w u -> Calls Tryz.prog 13 #[v, .int .i64 most] u fun e w' => PrintPost u w' e ([], 1)) := Lib.hid (fun u hb => by have h := J.pr most u hb; rw [print_over hf _ hm] at h; exact h)
 have hfa : Fine a := parse_fine hs (by omega)
 have hna : Neat a := parse_neat hs hsl
 have HFA := Lib.hid hfa
 have HNA := Lib.hid hna
 have GP : Hid (∀ v u, Below w.heap.size w u -> QView u v a -> Calls Tryz.prog 13 #[v, .int .i64 1099511627776] u fun e w' => PrintPost u w' e (linesF a, 0)) := Lib.hid (fun v u hb hq => by have h := J.gp a v 1099511627776 u hb hq hna; rw [print_ok hfa hna.1 _ (Int.le_refl _)] at h; exact h)
 have GV : Hid (∀ v u, Below w.heap.size w u -> QView u v a -> Calls Tryz.prog 30 #[v] u fun e w' => e = .returned (.tuple #[.int .i64 (validF a).1, .int .i64 0]) /\ Below u.heap.size u w') := Lib.hid (fun v u hb hq => (validF_ok a).2 hfa ▸ J.gv a v u hb hq hna)
 have j1 : decide ((67108864 : Int) < ((linesF a).length : Int)) = true := decide_eq_true (by omega)
 have j1n : decide (67108864 < (linesF a).length) = true := decide_eq_true hLa
 have HLA := Lib.hid hLa
 have HS := Lib.hid hs
 clear J hf hL hm hfa hna hsl hLa hs
 go_enter Tryz.func7, Tryz.ntmps7
 go_wp2_with (first
   | (go_at_call 29; (with_reducible refine HJ.out.aw.mono ?_); rintro e w1 ⟨rfl, hb1⟩; have HB1 := Lib.hid hb1; clear hb1)
   | (go_at_call 11; (with_reducible refine (HJ.out.hv _ HB1.out).mono ?_); rintro e w2 ⟨⟨hvy, rfl⟩, hb2⟩; have HB2 := Lib.hid (HB1.out.trans (hb2.mono HB1.out.size)); clear hb2)
   | (go_at_call 30; (with_reducible refine (VL.out _ HB2.out).mono ?_); rintro e w3 ⟨rfl, hb3⟩; have HB3 := Lib.hid (HB2.out.trans (hb3.mono HB2.out.size)); clear hb3)
   | (go_at_call 13; (with_reducible refine (PF.out _ HB3.out).mono ?_); rintro e w4 hp4; obtain ⟨a4, c4, rfl, ho4, hb4⟩ := hp4.open; have HB4 := Lib.hid (HB3.out.trans (hb4.mono HB3.out.size)); have HO4 := Lib.hid ho4; clear hb4 ho4 hp4)
   | (go_at_call 25; (with_reducible refine (nqParse_long _ _ _ _ HL.out).mono ?_); rintro e w5 ⟨⟨vm, evm, rfl⟩, hb5⟩; have HB5 := Lib.hid (HB4.out.trans (hb5.mono HB4.out.size)); have HO5 := Lib.hid (HO4.out.below hb5); clear hb5)
   | (go_at_call 13; (with_reducible refine (PM.out _ HB5.out).mono ?_); rintro e w7 hp7; obtain ⟨a7, c7, rfl, ho7, hb7⟩ := hp7.open; have HB7 := Lib.hid (HB5.out.trans (hb7.mono HB5.out.size)); have bk4 := (HO5.out.below hb7).back; have bk7 := ho7.back; obtain ⟨cap, C, hc, hcv, hr⟩ := HJ.out.cs w7; have HC := Lib.hid hc; have HR := Lib.hid hr; clear hc hr; clear hb7 ho7 hp7)
   | (go_at_call 25; (with_reducible refine (HJ.out.ps _ _ _ HB7.out HC.out HR.out).mono ?_); rintro e w8 ⟨hP, hb8⟩; rw [HS.out] at hP; obtain ⟨va, rfl, hF⟩ := hP; obtain ⟨pa, ca, rfl⟩ := hF.view.form; have HQ8 := Lib.hid hF.view; have HB8 := Lib.hid (HB7.out.trans (hb8.mono HB7.out.size)); clear hb8 hcv hF)
   | (go_at_call 13; (with_reducible refine (GP.out _ _ HB8.out HQ8.out).mono ?_); rintro e w9 hp9; obtain ⟨a9, c9, rfl, ho9, hb9⟩ := hp9.open; have HB9 := Lib.hid (HB8.out.trans (hb9.mono HB8.out.size)); have HQ9 := Lib.hid (HQ8.out.below hb9); have HO9 := Lib.hid ho9; clear hb9 ho9 hp9)
   | (go_at_call 30; (with_reducible refine (GV.out _ _ HB9.out HQ9.out).mono ?_); rintro e w10 ⟨rfl, hb10⟩; have HB10 := Lib.hid (HB9.out.trans (hb10.mono HB9.out.size)); have HQ10 := Lib.hid (HQ9.out.below hb10); have HO10 := Lib.hid (HO9.out.below hb10); clear hb10)
   | (go_at_call 25; (with_reducible refine (nqParse_long _ _ _ _ HLA.out).mono ?_); rintro e w11 ⟨⟨vn, evn, rfl⟩, hb11⟩; have HB11 := Lib.hid (HB10.out.trans (hb11.mono HB10.out.size)); clear hb11))
 · go_ret
   exact ⟨rfl, HB2.out⟩
 · go_ret
   exact ⟨rfl, HB11.out⟩
end Go.Proofs.YtdegonmkikfghaaGreatDoor
namespace Go.Proofs.YtdegonmkikfghaaGreatDoor
open Go.RowKit
set_option maxRecDepth 1000000
theorem back_join (l : List QuadL) (s : List UInt8) (v : Value) (most : Int) (w : World) (J : BIn l s v w) (hl : l.length <= 524288) (hsl : s.length <= 1048575) :
   Calls Tryz.prog 7 #[v, .string (B s), .int .i64 most] w fun e w' => e = .returned (.bool true) /\ Below w.heap.size w w' := by
 by_cases hv : (validF l).2 = 0
 · have hf := (validF_ok l).1 hv
   by_cases hL : (linesF l).length <= 67108864
   · by_cases hm : ((linesF l).length : Int) <= most
     · rcases hs : parseF s with a | ⟨p, c⟩
       · by_cases hLa : (linesF a).length <= 67108864
         · exact back_sf_short l s v most w J hf hl hL hm a hs hsl hLa
         · exact back_sf_long l s v most w J hf hl hL hm a hs hsl (by omega)
       · exact back_sf_bad l s v most w J hf hl hL hm p c hs
     · rcases hs : parseF s with a | ⟨p, c⟩
       · by_cases hLa : (linesF a).length <= 67108864
         · exact back_sn_short l s v most w J hf hl hL (by omega) a hs hsl hLa
         · exact back_sn_long l s v most w J hf hl hL (by omega) a hs hsl (by omega)
       · exact back_sn_bad l s v most w J hf hl hL (by omega) p c hs
   · by_cases hm : ((linesF l).length : Int) <= most
     · rcases hs : parseF s with a | ⟨p, c⟩
       · by_cases hLa : (linesF a).length <= 67108864
         · exact back_xf_short l s v most w J hf hl (by omega) hm a hs hsl hLa
         · exact back_xf_long l s v most w J hf hl (by omega) hm a hs hsl (by omega)
       · exact back_xf_bad l s v most w J hf hl (by omega) hm p c hs
     · rcases hs : parseF s with a | ⟨p, c⟩
       · by_cases hLa : (linesF a).length <= 67108864
         · exact back_xn_short l s v most w J hf hl (by omega) (by omega) a hs hsl hLa
         · exact back_xn_long l s v most w J hf hl (by omega) (by omega) a hs hsl (by omega)
       · exact back_xn_bad l s v most w J hf hl (by omega) (by omega) p c hs
 · rcases hs : parseF s with a | ⟨p, c⟩
   · by_cases hLa : (linesF a).length <= 67108864
     · exact back_bad_short l s v most w J _ rfl hv a hs hsl hLa
     · exact back_bad_long l s v most w J _ rfl hv a hs hsl (by omega)
   · exact back_bad_bad l s v most w J _ rfl hv p c hs
theorem back_walk (l : List QuadL) (s : List UInt8) (v : Value) (most : Int) (w : World) (hV : QView w v l) (hN : Neat l) (hs : s.length <= 1048575) (hT : TabAt w) (hM : MaxAt w) (hU : UtAt w) (hE : ErrType w) :
   Calls Tryz.prog 7 #[v, .string (B s), .int .i64 most] w fun e w' => e = .returned (.bool true) /\ Below w.heap.size w w' :=
 back_join l s v most w (bin_l l s v w hV hN (by omega) hT hM hU hE) hN.1 hs
end Go.Proofs.YtdegonmkikfghaaGreatDoor
