/-
  lexis.Lexer.token: a contract. By an AI agent.
-/
import Derived.Test.YtdhmpakhdhdebaaGreatDoorZLexW13
namespace Go.Proofs.YtdhmpakhdhdebaaGreatDoor
open Go.Lib (hid)
open Go.RowKit
set_option maxRecDepth 100000
theorem tokRet_open {e : Ending} {i : Nat} {r : TokR} (h : TokRet e i r) : ∃ k x y z a f p n, e = .returned (.tuple #[tokV k x y z a f, .agg #[.int .i64 p, .int .i64 n]]) := by
 rcases r with t | ⟨p, n⟩
 ·exact ⟨_, _, _, _, _, _, _, _, h⟩
 ·obtain ⟨k, x, y, z, a, f, h⟩ := h
  exact ⟨_, _, _, _, _, _, _, _, h⟩
theorem ix_has (L : List UInt8) (c : UInt8) : decide (0 <= Lib.indexByte L c) = L.contains c := by
 cases h : L.contains c with
 | true => exact decide_eq_true (ix_some _ _ (List.contains_iff_mem.1 h))
 | false => rw [ix_none _ c (fun b hb e => by rw [List.contains_iff_mem.2 (e ▸ hb)] at h; cases h)]; rfl
theorem enc_sign {c : UInt8} (h : signs8.contains c = true) : Utf8.encode (c.toNat : Int) = B [c] := by
 have hm : c ∈ signs8 := List.contains_iff_mem.1 h
 unfold signs8 at hm
 simp only [List.mem_cons, List.not_mem_nil, or_false] at hm
 rcases hm with e | e | e | e | e | e | e | e <;> (rw [e]; first | decide | (unfold Utf8.encode; rfl) | (simp [Utf8.encode, B]; done) | (unfold Utf8.encode; simp; rfl))
set_option maxHeartbeats 12800000 in
theorem lexToken_l (l : List UInt8) (bad : Int) (i : Nat) (ev : Value) (b : Nat) (w : World) (h : LexAt w b l bad i ev) (hi : i < l.length) (hl : l.length <= 4194304) (hT : TabAt w) (hM : MaxAt w) :
  Calls Tryz.prog 45 #[.pointer (some ⟨b, 0, none⟩)] w fun e w' => TokRet e i (tokG l i) /\ Below w.heap.size w w' := by
 rw [<- tok_eq hi]
 have IR := hid (fun (u : World) (hb : Below w.heap.size w u) => lexIri_l l bad i ev b u (h.below hb) hi hl)
 have BL := hid (fun (hc : l.getD i 0 = 95) (u : World) (hb : Below w.heap.size w u) => lexBlank_l l bad i ev b u (h.below hb) hi hc (by omega) (hT.below hb))
 have QU := hid (fun (hc : l.getD i 0 = 34 \/ l.getD i 0 = 39) (u : World) (hb : Below w.heap.size w u) => lexQuoted_l l bad i ev b u (h.below hb) hi hl hc)
 have TA := hid (fun (u : World) (hb : Below w.heap.size w u) => lexTagged_l l bad i ev b u (h.below hb) hi hl (hM.below hb))
 have NU := hid (fun (u : World) (hb : Below w.heap.size w u) => lexNumber_l l bad i ev b u (h.below hb) hi hl)
 have NA := hid (fun (u : World) (hb : Below w.heap.size w u) => lexNamed_l l bad i ev b u (h.below hb) hi hl (hT.below hb))
 have hg : l.getD i 0 = l[i] := by simp [List.getD, hi]
 have HG := hid hg
 have DG := hid (lexDigit_l l[i])
 have IB := hid (fun (u : World) => show Calls Tryz.prog 72 #[.string { data := #[59, 44, 91, 93, 40, 41, 123, 125] }, .int .u8 (l[i].toNat : Int)] u (fun e w' => e = .returned (.int .i64 (Lib.indexByte signs8 l[i])) /\ w' = u) from by
  have h := Tryz.strings_IndexByte { data := #[59, 44, 91, 93, 40, 41, 123, 125] } (l[i].toNat : Int) u
  rw [show ((l[i].toNat : Int).toNat.toUInt8) = l[i] from by simp] at h
  exact h)
 have tk : List.take (l.length - i) (List.drop i l) = List.drop i l := List.take_of_length_le (by simp)
 have k2 : (i : Int) < (l.length : Int) := by omega
 clear hT hM hg
 obtain ⟨W, hW⟩ : ∃ W, (w.alloc (.cells #[.int .i64 0, .string ⟨#[]⟩, .string ⟨#[]⟩, .string ⟨#[]⟩, .int .i64 0, .int .i64 0] 50)).alloc (.cells #[.int .i64 0, .int .i64 0] 111) = W := ⟨_, rfl⟩
 have HB0 : Hid (Below w.heap.size w W) := hid (by rw [<- hW]; exact ((Below.refl _ _).alloc (Nat.le_refl _) _).alloc (by simp) _)
 have HK : Hid (TkAt W w.heap.size) := hid (by rw [<- hW]; exact tkAt_of (tk_new w).1 (tk_new w).2)
 have HX := hid (h.below HB0.out)
 have hn0 : ¬ b = w.heap.size := by have := h.lt; omega
 have hn1 : ¬ b = w.heap.size + 1 := by have := h.lt; omega
 have k0 : (0 : Int) <= (i : Int) := by omega
 have k1 : (i : Int) <= (l.length : Int) := by omega
 obtain ⟨x0, x1, x2, x3, f0, f1, f2, f3⟩ := RowAt.four HX.out
 have hbl := HX.out.lt
 obtain ⟨a0, a1, a2, a3, a4, a5, p0, p1, p2, p3, p4, p5, d0, d1, e0, e1, hlt⟩ := HK.out
 have hlt0 := Nat.lt_of_succ_lt hlt
 go_enter Tryz.func45, Tryz.ntmps45
 go_wp2_with fail
 go_quiet (fail)
 by_cases c60 : l[i] = 60
 ·have y60 : ((l[i].toNat : Int) == 60) = true := by rw [c60]; rfl
  have HI : Hid (tokP l i = iriG l i) := hid (by unfold tokP; rw [HG.out]; rw [if_pos c60])
  go_wp2_with (first | (go_at_call 66; (with_reducible refine (IR.out _ ?_).mono ?_); (first | (with_reducible exact HB0.out) | exact below_drewN_h HB0.out _); rintro e w3 ⟨he, hb⟩; obtain ⟨k, x, y, z, a, f, p, n, he2⟩ := tokRet_open he; rw [he2] at he; rw [he2]; clear he2; unfold tokV; replace HX := hid (@LexAt.below _ _ b l bad i ev (by exact HX.out) hb); replace HK := hid (@TkAt.below _ _ _ (by exact TkAt.same HK.out) hb); replace HB0 := hid (below_same HB0.out hb); clear x0 x1 x2 x3 f0 f1 f2 f3 hbl a0 a1 a2 a3 a4 a5 p0 p1 p2 p3 p4 p5 d0 d1 e0 e1 hlt hlt0 hb; obtain ⟨x0, x1, x2, x3, f0, f1, f2, f3⟩ := RowAt.four HX.out; have hbl := HX.out.lt; obtain ⟨a0, a1, a2, a3, a4, a5, p0, p1, p2, p3, p4, p5, d0, d1, e0, e1, hlt⟩ := HK.out; have hlt0 := Nat.lt_of_succ_lt hlt))
  exact tok_done rfl HK.out HB0.out rfl rfl (by rw [HI.out]; exact he)
 have y60 : ((l[i].toNat : Int) == 60) = false := byte_ne (d := 60) c60
 by_cases c95 : l[i] = 95
 ·have y95 : ((l[i].toNat : Int) == 95) = true := by rw [c95]; rfl
  have HI : Hid (tokP l i = labelG l i) := hid (by unfold tokP; rw [HG.out]; rw [if_neg c60, if_pos c95])
  go_wp2_with (first | (go_at_call 67; (with_reducible refine (BL.out (by rw [HG.out]; exact c95) _ ?_).mono ?_); (first | (with_reducible exact HB0.out) | exact below_drewN_h HB0.out _); rintro e w3 ⟨he, hb⟩; obtain ⟨k, x, y, z, a, f, p, n, he2⟩ := tokRet_open he; rw [he2] at he; rw [he2]; clear he2; unfold tokV; replace HX := hid (@LexAt.below _ _ b l bad i ev (by exact HX.out) hb); replace HK := hid (@TkAt.below _ _ _ (by exact TkAt.same HK.out) hb); replace HB0 := hid (below_same HB0.out hb); clear x0 x1 x2 x3 f0 f1 f2 f3 hbl a0 a1 a2 a3 a4 a5 p0 p1 p2 p3 p4 p5 d0 d1 e0 e1 hlt hlt0 hb; obtain ⟨x0, x1, x2, x3, f0, f1, f2, f3⟩ := RowAt.four HX.out; have hbl := HX.out.lt; obtain ⟨a0, a1, a2, a3, a4, a5, p0, p1, p2, p3, p4, p5, d0, d1, e0, e1, hlt⟩ := HK.out; have hlt0 := Nat.lt_of_succ_lt hlt))
  exact tok_done rfl HK.out HB0.out rfl rfl (by rw [HI.out]; exact he)
 have y95 : ((l[i].toNat : Int) == 95) = false := byte_ne (d := 95) c95
 by_cases c34 : l[i] = 34
 ·have y34 : ((l[i].toNat : Int) == 34) = true := by rw [c34]; rfl
  have HI : Hid (tokP l i = quoteG l i) := hid (by unfold tokP; rw [HG.out]; rw [if_neg c60, if_neg c95, if_pos (.inl c34)])
  go_wp2_with (first | (go_at_call 68; (with_reducible refine (QU.out (by rw [HG.out]; exact .inl c34) _ ?_).mono ?_); (first | (with_reducible exact HB0.out) | exact below_drewN_h HB0.out _); rintro e w3 ⟨he, hb⟩; obtain ⟨k, x, y, z, a, f, p, n, he2⟩ := tokRet_open he; rw [he2] at he; rw [he2]; clear he2; unfold tokV; replace HX := hid (@LexAt.below _ _ b l bad i ev (by exact HX.out) hb); replace HK := hid (@TkAt.below _ _ _ (by exact TkAt.same HK.out) hb); replace HB0 := hid (below_same HB0.out hb); clear x0 x1 x2 x3 f0 f1 f2 f3 hbl a0 a1 a2 a3 a4 a5 p0 p1 p2 p3 p4 p5 d0 d1 e0 e1 hlt hlt0 hb; obtain ⟨x0, x1, x2, x3, f0, f1, f2, f3⟩ := RowAt.four HX.out; have hbl := HX.out.lt; obtain ⟨a0, a1, a2, a3, a4, a5, p0, p1, p2, p3, p4, p5, d0, d1, e0, e1, hlt⟩ := HK.out; have hlt0 := Nat.lt_of_succ_lt hlt))
  exact tok_done rfl HK.out HB0.out rfl rfl (by rw [HI.out]; exact he)
 have y34 : ((l[i].toNat : Int) == 34) = false := byte_ne (d := 34) c34
 by_cases c39 : l[i] = 39
 ·have y39 : ((l[i].toNat : Int) == 39) = true := by rw [c39]; rfl
  have HI : Hid (tokP l i = quoteG l i) := hid (by unfold tokP; rw [HG.out]; rw [if_neg c60, if_neg c95, if_pos (.inr c39)])
  go_wp2_with (first | (go_at_call 68; (with_reducible refine (QU.out (by rw [HG.out]; exact .inr c39) _ ?_).mono ?_); (first | (with_reducible exact HB0.out) | exact below_drewN_h HB0.out _); rintro e w3 ⟨he, hb⟩; obtain ⟨k, x, y, z, a, f, p, n, he2⟩ := tokRet_open he; rw [he2] at he; rw [he2]; clear he2; unfold tokV; replace HX := hid (@LexAt.below _ _ b l bad i ev (by exact HX.out) hb); replace HK := hid (@TkAt.below _ _ _ (by exact TkAt.same HK.out) hb); replace HB0 := hid (below_same HB0.out hb); clear x0 x1 x2 x3 f0 f1 f2 f3 hbl a0 a1 a2 a3 a4 a5 p0 p1 p2 p3 p4 p5 d0 d1 e0 e1 hlt hlt0 hb; obtain ⟨x0, x1, x2, x3, f0, f1, f2, f3⟩ := RowAt.four HX.out; have hbl := HX.out.lt; obtain ⟨a0, a1, a2, a3, a4, a5, p0, p1, p2, p3, p4, p5, d0, d1, e0, e1, hlt⟩ := HK.out; have hlt0 := Nat.lt_of_succ_lt hlt))
  exact tok_done rfl HK.out HB0.out rfl rfl (by rw [HI.out]; exact he)
 have y39 : ((l[i].toNat : Int) == 39) = false := byte_ne (d := 39) c39
 by_cases c64 : l[i] = 64
 ·have y64 : ((l[i].toNat : Int) == 64) = true := by rw [c64]; rfl
  have HI : Hid (tokP l i = atG l i) := hid (by unfold tokP; rw [HG.out]; rw [if_neg c60, if_neg c95, if_neg (by rintro (e | e); exact c34 e; exact c39 e), if_pos c64])
  go_wp2_with (first | (go_at_call 69; (with_reducible refine (TA.out _ ?_).mono ?_); (first | (with_reducible exact HB0.out) | exact below_drewN_h HB0.out _); rintro e w3 ⟨he, hb⟩; obtain ⟨k, x, y, z, a, f, p, n, he2⟩ := tokRet_open he; rw [he2] at he; rw [he2]; clear he2; unfold tokV; replace HX := hid (@LexAt.below _ _ b l bad i ev (by exact HX.out) hb); replace HK := hid (@TkAt.below _ _ _ (by exact TkAt.same HK.out) hb); replace HB0 := hid (below_same HB0.out hb); clear x0 x1 x2 x3 f0 f1 f2 f3 hbl a0 a1 a2 a3 a4 a5 p0 p1 p2 p3 p4 p5 d0 d1 e0 e1 hlt hlt0 hb; obtain ⟨x0, x1, x2, x3, f0, f1, f2, f3⟩ := RowAt.four HX.out; have hbl := HX.out.lt; obtain ⟨a0, a1, a2, a3, a4, a5, p0, p1, p2, p3, p4, p5, d0, d1, e0, e1, hlt⟩ := HK.out; have hlt0 := Nat.lt_of_succ_lt hlt))
  exact tok_done rfl HK.out HB0.out rfl rfl (by rw [HI.out]; exact he)
 have y64 : ((l[i].toNat : Int) == 64) = false := byte_ne (d := 64) c64
 by_cases c43 : l[i] = 43
 ·have y43 : ((l[i].toNat : Int) == 43) = true := by rw [c43]; rfl
  have HI : Hid (tokP l i = numTok l i) := hid (by unfold tokP; rw [HG.out]; rw [if_neg c60, if_neg c95, if_neg (by rintro (e | e); exact c34 e; exact c39 e), if_neg c64, if_pos (.inl c43)])
  go_wp2_with (first | (go_at_call 71; (with_reducible refine (NU.out _ ?_).mono ?_); (first | (with_reducible exact HB0.out) | exact below_drewN_h HB0.out _); rintro e w3 ⟨he, hb⟩; obtain ⟨k, x, y, z, a, f, p, n, he2⟩ := tokRet_open he; rw [he2] at he; rw [he2]; clear he2; unfold tokV; replace HX := hid (@LexAt.below _ _ b l bad i ev (by exact HX.out) hb); replace HK := hid (@TkAt.below _ _ _ (by exact TkAt.same HK.out) hb); replace HB0 := hid (below_same HB0.out hb); clear x0 x1 x2 x3 f0 f1 f2 f3 hbl a0 a1 a2 a3 a4 a5 p0 p1 p2 p3 p4 p5 d0 d1 e0 e1 hlt hlt0 hb; obtain ⟨x0, x1, x2, x3, f0, f1, f2, f3⟩ := RowAt.four HX.out; have hbl := HX.out.lt; obtain ⟨a0, a1, a2, a3, a4, a5, p0, p1, p2, p3, p4, p5, d0, d1, e0, e1, hlt⟩ := HK.out; have hlt0 := Nat.lt_of_succ_lt hlt))
  exact tok_done rfl HK.out HB0.out rfl rfl (by rw [HI.out]; exact he)
 have y43 : ((l[i].toNat : Int) == 43) = false := byte_ne (d := 43) c43
 by_cases c45 : l[i] = 45
 ·have y45 : ((l[i].toNat : Int) == 45) = true := by rw [c45]; rfl
  have HI : Hid (tokP l i = numTok l i) := hid (by unfold tokP; rw [HG.out]; rw [if_neg c60, if_neg c95, if_neg (by rintro (e | e); exact c34 e; exact c39 e), if_neg c64, if_pos (.inr (.inl c45))])
  go_wp2_with (first | (go_at_call 71; (with_reducible refine (NU.out _ ?_).mono ?_); (first | (with_reducible exact HB0.out) | exact below_drewN_h HB0.out _); rintro e w3 ⟨he, hb⟩; obtain ⟨k, x, y, z, a, f, p, n, he2⟩ := tokRet_open he; rw [he2] at he; rw [he2]; clear he2; unfold tokV; replace HX := hid (@LexAt.below _ _ b l bad i ev (by exact HX.out) hb); replace HK := hid (@TkAt.below _ _ _ (by exact TkAt.same HK.out) hb); replace HB0 := hid (below_same HB0.out hb); clear x0 x1 x2 x3 f0 f1 f2 f3 hbl a0 a1 a2 a3 a4 a5 p0 p1 p2 p3 p4 p5 d0 d1 e0 e1 hlt hlt0 hb; obtain ⟨x0, x1, x2, x3, f0, f1, f2, f3⟩ := RowAt.four HX.out; have hbl := HX.out.lt; obtain ⟨a0, a1, a2, a3, a4, a5, p0, p1, p2, p3, p4, p5, d0, d1, e0, e1, hlt⟩ := HK.out; have hlt0 := Nat.lt_of_succ_lt hlt))
  exact tok_done rfl HK.out HB0.out rfl rfl (by rw [HI.out]; exact he)
 have y45 : ((l[i].toNat : Int) == 45) = false := byte_ne (d := 45) c45
 by_cases c46 : l[i] = 46
 ·have y46 : ((l[i].toNat : Int) == 46) = true := by rw [c46]; rfl
  have HI : Hid (tokP l i = numTok l i) := hid (by unfold tokP; rw [HG.out]; rw [if_neg c60, if_neg c95, if_neg (by rintro (e | e); exact c34 e; exact c39 e), if_neg c64, if_pos (.inr (.inr (.inl c46)))])
  go_wp2_with (first | (go_at_call 71; (with_reducible refine (NU.out _ ?_).mono ?_); (first | (with_reducible exact HB0.out) | exact below_drewN_h HB0.out _); rintro e w3 ⟨he, hb⟩; obtain ⟨k, x, y, z, a, f, p, n, he2⟩ := tokRet_open he; rw [he2] at he; rw [he2]; clear he2; unfold tokV; replace HX := hid (@LexAt.below _ _ b l bad i ev (by exact HX.out) hb); replace HK := hid (@TkAt.below _ _ _ (by exact TkAt.same HK.out) hb); replace HB0 := hid (below_same HB0.out hb); clear x0 x1 x2 x3 f0 f1 f2 f3 hbl a0 a1 a2 a3 a4 a5 p0 p1 p2 p3 p4 p5 d0 d1 e0 e1 hlt hlt0 hb; obtain ⟨x0, x1, x2, x3, f0, f1, f2, f3⟩ := RowAt.four HX.out; have hbl := HX.out.lt; obtain ⟨a0, a1, a2, a3, a4, a5, p0, p1, p2, p3, p4, p5, d0, d1, e0, e1, hlt⟩ := HK.out; have hlt0 := Nat.lt_of_succ_lt hlt))
  exact tok_done rfl HK.out HB0.out rfl rfl (by rw [HI.out]; exact he)
 have y46 : ((l[i].toNat : Int) == 46) = false := byte_ne (d := 46) c46
 obtain ⟨dg, hdg⟩ : ∃ dg, digC l[i] = dg := ⟨_, rfl⟩
 rw [hdg] at DG
 cases dg
 case true =>
  have HI : Hid (tokP l i = numTok l i) := hid (by unfold tokP; rw [HG.out]; rw [if_neg c60, if_neg c95, if_neg (by rintro (e | e); exact c34 e; exact c39 e), if_neg c64, if_pos (.inr (.inr (.inr hdg)))])
  go_wp2_with (first | (go_at_call 70; (with_reducible refine (DG.out _).mono ?_); rintro e w3 ⟨rfl, hw⟩; rw [hw]; clear hw) | (go_at_call 71; (with_reducible refine (NU.out _ ?_).mono ?_); (first | (with_reducible exact HB0.out) | exact below_drewN_h HB0.out _); rintro e w3 ⟨he, hb⟩; obtain ⟨k, x, y, z, a, f, p, n, he2⟩ := tokRet_open he; rw [he2] at he; rw [he2]; clear he2; unfold tokV; replace HX := hid (@LexAt.below _ _ b l bad i ev (by exact HX.out) hb); replace HK := hid (@TkAt.below _ _ _ (by exact TkAt.same HK.out) hb); replace HB0 := hid (below_same HB0.out hb); clear x0 x1 x2 x3 f0 f1 f2 f3 hbl a0 a1 a2 a3 a4 a5 p0 p1 p2 p3 p4 p5 d0 d1 e0 e1 hlt hlt0 hb; obtain ⟨x0, x1, x2, x3, f0, f1, f2, f3⟩ := RowAt.four HX.out; have hbl := HX.out.lt; obtain ⟨a0, a1, a2, a3, a4, a5, p0, p1, p2, p3, p4, p5, d0, d1, e0, e1, hlt⟩ := HK.out; have hlt0 := Nat.lt_of_succ_lt hlt))
  exact tok_done rfl HK.out HB0.out rfl rfl (by rw [HI.out]; exact he)
 obtain ⟨z8, hz8⟩ : ∃ z8, Lib.indexByte signs8 l[i] = z8 := ⟨_, rfl⟩
 have hq := ix_has signs8 l[i]
 rw [hz8] at IB hq
 obtain ⟨sg, hsg⟩ : ∃ sg, signs8.contains l[i] = sg := ⟨_, rfl⟩
 rw [hsg] at hq
 cases sg
 case true =>
  have HI : Hid (tokP l i = .inl ⟨8, [l[i]], [], [], (i : Nat), (i + 1 : Nat)⟩) := hid (by unfold tokP; rw [HG.out]; rw [if_neg c60, if_neg c95, if_neg (by rintro (e | e); exact c34 e; exact c39 e), if_neg c64, if_neg (by rintro (e | e | e | e); exact c43 e; exact c45 e; exact c46 e; rw [hdg] at e; cases e), if_pos hsg])
  have HEN := hid (enc_sign hsg)
  clear hsg hdg hz8
  go_wp2_with (first | (go_at_call 70; (with_reducible refine (DG.out _).mono ?_); rintro e w3 ⟨rfl, hw⟩; rw [hw]; clear hw) | (go_at_call 72; (with_reducible refine (IB.out _).mono ?_); rintro e w3 ⟨rfl, hw⟩; rw [hw]; clear hw))
  exact tok_done rfl (HK.out.drewN _) (below_drewN_h HB0.out _) rfl rfl (by rw [HI.out]; exact tokRet_of (t := ⟨8, [l[i]], [], [], (i : Nat), (i + 1 : Nat)⟩) HEN.out rfl rfl (by simp only; omega))
 have HN : Hid (tokP l i = if l[i] = 94 /\ i + 1 < l.length /\ l.getD (i + 1) 0 = 94 then .inl ⟨8, [94, 94], [], [], (i : Nat), (i + 2 : Nat)⟩ else nameG l i) := hid (by unfold tokP; rw [HG.out]; rw [if_neg c60, if_neg c95, if_neg (by rintro (e | e); exact c34 e; exact c39 e), if_neg c64, if_neg (by rintro (e | e | e | e); exact c43 e; exact c45 e; exact c46 e; rw [hdg] at e; cases e), if_neg (by rw [hsg]; simp)])
 clear hsg hdg hz8
 by_cases c94 : l[i] = 94
 ·have y94 : ((l[i].toNat : Int) == 94) = true := by rw [c94]; rfl
  have DG2 : Hid (∀ u, Calls Tryz.prog 70 #[.int .u8 94] u fun e w' => e = .returned (.bool false) /\ w' = u) := hid (fun u => by have := DG.out u; rw [c94] at this; exact this)
  have IB2 : Hid (∀ u, Calls Tryz.prog 72 #[.string { data := #[59, 44, 91, 93, 40, 41, 123, 125] }, .int .u8 94] u fun e w' => e = .returned (.int .i64 z8) /\ w' = u) := hid (fun u => by have := IB.out u; rw [c94] at this; exact this)
  clear DG IB
  have DG := DG2
  have IB := IB2
  clear DG2 IB2
  obtain ⟨pb, hpb⟩ : ∃ pb, decide (i + 1 < l.length /\ l.getD (i + 1) 0 = 94) = pb := ⟨_, rfl⟩
  have HQ : Hid (∀ u, Calls Tryz.prog 73 #[.string (B (List.drop i l)), .string { data := #[94, 94] }] u fun e w' => e = .returned (.bool pb) /\ w' = u) := hid (fun u => by
   have := Tryz.strings_HasPrefix (B (List.drop i l)) { data := #[94, 94] } u
   rw [show (B (List.drop i l)).data.toList = List.drop i l from B_toList _, show ({ data := #[94, 94] } : ByteArray).data.toList = [94, 94] from rfl, has_two hi (by rw [HG.out]; exact c94), hpb] at this
   exact this)
  cases pb
  ·have HI : Hid (tokP l i = nameG l i) := hid (by rw [HN.out, if_neg (fun x => of_decide_eq_false hpb x.2)])
   clear HN hpb
   go_wp2_with (first | (go_at_call 70; (with_reducible refine (DG.out _).mono ?_); rintro e w3 ⟨rfl, hw⟩; rw [hw]; clear hw) | (go_at_call 72; (with_reducible refine (IB.out _).mono ?_); rintro e w3 ⟨rfl, hw⟩; rw [hw]; clear hw))
   go_quiet ((go_at_call 73; exact quiet_same2 (HQ.out _)))
   go_wp2_with (go_at_call 74; (with_reducible refine (NA.out _ ?_).mono ?_); (first | (with_reducible exact HB0.out) | exact below_drewN_h HB0.out _ | exact below_drewN_h (below_drewN_h HB0.out _) _); rintro e w3 ⟨he, hb⟩; obtain ⟨k, x, y, z, a, f, p, n, he2⟩ := tokRet_open he; rw [he2] at he; rw [he2]; clear he2; unfold tokV; replace HX := hid (@LexAt.below _ _ b l bad i ev (by exact HX.out) hb); replace HK := hid (@TkAt.below _ _ _ (by exact TkAt.same HK.out) hb); replace HB0 := hid (below_same HB0.out hb); clear x0 x1 x2 x3 f0 f1 f2 f3 hbl a0 a1 a2 a3 a4 a5 p0 p1 p2 p3 p4 p5 d0 d1 e0 e1 hlt hlt0 hb; obtain ⟨x0, x1, x2, x3, f0, f1, f2, f3⟩ := RowAt.four HX.out; have hbl := HX.out.lt; obtain ⟨a0, a1, a2, a3, a4, a5, p0, p1, p2, p3, p4, p5, d0, d1, e0, e1, hlt⟩ := HK.out; have hlt0 := Nat.lt_of_succ_lt hlt)
   exact tok_done rfl HK.out HB0.out rfl rfl (by rw [HI.out]; exact he)
  ·have HI : Hid (tokP l i = .inl ⟨8, [94, 94], [], [], (i : Nat), (i + 2 : Nat)⟩) := hid (by rw [HN.out, if_pos ⟨c94, of_decide_eq_true hpb⟩])
   clear HN hpb
   go_wp2_with (first | (go_at_call 70; (with_reducible refine (DG.out _).mono ?_); rintro e w3 ⟨rfl, hw⟩; rw [hw]; clear hw) | (go_at_call 72; (with_reducible refine (IB.out _).mono ?_); rintro e w3 ⟨rfl, hw⟩; rw [hw]; clear hw))
   go_quiet ((go_at_call 73; exact quiet_same2 (HQ.out _)))
   go_wp2_with fail
   exact tok_done rfl (HK.out.drewN _) (below_drewN_h HB0.out _) rfl rfl (by rw [HI.out]; exact tokRet_of (t := ⟨8, [94, 94], [], [], (i : Nat), (i + 2 : Nat)⟩) rfl rfl rfl (by simp only; omega))
 ·have y94 : ((l[i].toNat : Int) == 94) = false := byte_ne (d := 94) c94
  have HI : Hid (tokP l i = nameG l i) := hid (by rw [HN.out, if_neg (fun x => c94 x.1)])
  clear HN
  go_wp2_with (first | (go_at_call 70; (with_reducible refine (DG.out _).mono ?_); rintro e w3 ⟨rfl, hw⟩; rw [hw]; clear hw) | (go_at_call 72; (with_reducible refine (IB.out _).mono ?_); rintro e w3 ⟨rfl, hw⟩; rw [hw]; clear hw))
  go_quiet (fail)
  go_wp2_with (go_at_call 74; (with_reducible refine (NA.out _ ?_).mono ?_); (first | (with_reducible exact HB0.out) | exact below_drewN_h HB0.out _ | exact below_drewN_h (below_drewN_h HB0.out _) _); rintro e w3 ⟨he, hb⟩; obtain ⟨k, x, y, z, a, f, p, n, he2⟩ := tokRet_open he; rw [he2] at he; rw [he2]; clear he2; unfold tokV; replace HX := hid (@LexAt.below _ _ b l bad i ev (by exact HX.out) hb); replace HK := hid (@TkAt.below _ _ _ (by exact TkAt.same HK.out) hb); replace HB0 := hid (below_same HB0.out hb); clear x0 x1 x2 x3 f0 f1 f2 f3 hbl a0 a1 a2 a3 a4 a5 p0 p1 p2 p3 p4 p5 d0 d1 e0 e1 hlt hlt0 hb; obtain ⟨x0, x1, x2, x3, f0, f1, f2, f3⟩ := RowAt.four HX.out; have hbl := HX.out.lt; obtain ⟨a0, a1, a2, a3, a4, a5, p0, p1, p2, p3, p4, p5, d0, d1, e0, e1, hlt⟩ := HK.out; have hlt0 := Nat.lt_of_succ_lt hlt)
  exact tok_done rfl HK.out HB0.out rfl rfl (by rw [HI.out]; exact he)
end Go.Proofs.YtdhmpakhdhdebaaGreatDoor
namespace Go.Proofs.YtdhmpakhdhdebaaGreatDoor
open Go.Lib (hid)
open Go.RowKit
set_option maxRecDepth 100000
def TokZ : List Value := [.int .i64 0, .string ⟨#[]⟩, .string ⟨#[]⟩, .string ⟨#[]⟩, .int .i64 0, .int .i64 0]
def six (W : World) (g : Nat) (k : Int) (x y z : ByteArray) (a e : Int) : World := (((((W.setCell ⟨g, 0, none⟩ (.int .i64 k)).setCell ⟨g, 1, none⟩ (.string x)).setCell ⟨g, 2, none⟩ (.string y)).setCell ⟨g, 3, none⟩ (.string z)).setCell ⟨g, 4, none⟩ (.int .i64 a)).setCell ⟨g, 5, none⟩ (.int .i64 e)
theorem six_row {W : World} {g : Nat} {vs : List Value} (h : RowAt W g vs) (h6 : vs.length = 6) (k : Int) (x y z : ByteArray) (a e : Int) : RowAt (six W g k x y z a e) g [.int .i64 k, .string x, .string y, .string z, .int .i64 a, .int .i64 e] := by
 match vs, h6 with
 | [v0, v1, v2, v3, v4, v5], _ =>
  exact (((((h.set (j := 0) (by simp) (.int .i64 k)).set (j := 1) (by simp) (.string x)).set (j := 2) (by simp) (.string y)).set (j := 3) (by simp) (.string z)).set (j := 4) (by simp) (.int .i64 a)).set (j := 5) (by simp) (.int .i64 e)
theorem six_other {W : World} {g f : Nat} {vs : List Value} (h : RowAt W f vs) (hne : f ≠ g) (k : Int) (x y z : ByteArray) (a e : Int) : RowAt (six W g k x y z a e) f vs := (((((h.other hne (.int .i64 k)).other hne (.string x)).other hne (.string y)).other hne (.string z)).other hne (.int .i64 a)).other hne (.int .i64 e)
theorem six_grown {w W : World} {r : Option Nat} {g : Nat} (h : w.grownBy W r) (hg : w.heap.size <= g) (k : Int) (x y z : ByteArray) (a e : Int) : w.grownBy (six W g k x y z a e) r := grown_set (grown_set (grown_set (grown_set (grown_set (grown_set h hg _) hg _) hg _) hg _) hg _) hg _
theorem six_lex {W : World} {g b : Nat} {l : List UInt8} {bad : Int} {i : Nat} {ev : Value} (h : LexAt W b l bad i ev) (hne : b ≠ g) (k : Int) (x y z : ByteArray) (a e : Int) : LexAt (six W g k x y z a e) b l bad i ev := six_other h hne k x y z a e
theorem six_err {W : World} {g : Nat} {v : Value} {q : Nat × Int} {vs : List Value} (h : ErrIs W v (.inr q)) (hr : RowAt W g vs) (h6 : vs.length = 6) (hs : ∃ s, vs[1]'(by omega) = .string s) (k : Int) (x y z : ByteArray) (a e : Int) : ErrIs (six W g k x y z a e) v (.inr q) := by
 obtain ⟨p, n⟩ := q
 obtain ⟨B, rfl, h1, h2⟩ := h
 have hne : B ≠ g := fun he => by
  subst he
  obtain ⟨s, hs⟩ := hs
  have := hr.cell (j := 1) (by omega)
  rw [h2, hs] at this
  cases this
 have c : ∀ (o : Nat) (u : Value) (V : World) (j : Nat) (t : Value), V.cell? ⟨B, j, none⟩ = some t -> (V.setCell ⟨g, o, none⟩ u).cell? ⟨B, j, none⟩ = some t := fun o u V j t ht => by
  rw [World.cell?_setCell_other _ _ _ _ (fun e => hne (congrArg Addr.block e).symm)]; exact ht
 exact ⟨B, rfl, c _ _ _ _ _ (c _ _ _ _ _ (c _ _ _ _ _ (c _ _ _ _ _ (c _ _ _ _ _ (c _ _ _ _ _ h1))))), c _ _ _ _ _ (c _ _ _ _ _ (c _ _ _ _ _ (c _ _ _ _ _ (c _ _ _ _ _ (c _ _ _ _ _ h2)))))⟩
theorem results_tv {s s' : Nat} (fn : Func) (hr : fn.results = #[.cell s 50, .tmp s']) (tm : Array Value) (u : World) (g : Nat) (v : Value) (k : Int) (x y z : ByteArray) (a e : Int) (h2 : tm.getD s undef = .pointer (some ⟨g, 0, none⟩)) (h3 : tm.getD s' undef = v) (R : RowAt u g [.int .i64 k, .string x, .string y, .string z, .int .i64 a, .int .i64 e]) :
  (results fn tm).run Tryz.prog u = .ok (.tuple #[tokV k x y z a e, v]) u := by
 have c0 := R.cell (j := 0) (by simp)
 have c1 := R.cell (j := 1) (by simp)
 have c2 := R.cell (j := 2) (by simp)
 have c3 := R.cell (j := 3) (by simp)
 have c4 := R.cell (j := 4) (by simp)
 have c5 := R.cell (j := 5) (by simp)
 simp only [List.getElem_cons_zero, List.getElem_cons_succ] at c0 c1 c2 c3 c4 c5
 subst h3
 rw [Array.getD_eq_getD_getElem?] at h2
 simp [results, hr, h2, go_sem, c0, c1, c2, c3, c4, c5, tokV]
def FailPost (w : World) (b : Nat) (l : List UInt8) (bad : Int) (i : Nat) (q : Nat × Int) (e : Ending) (w' : World) : Prop :=
 ∃ v v2, e = .returned (.tuple #[tokV 0 ⟨#[]⟩ ⟨#[]⟩ ⟨#[]⟩ 0 0, v]) /\ LexAt w' b l bad i v2 /\ ErrIs w' v (.inr q) /\ ErrIs w' v2 (.inr q) /\ w.grownBy w' (some b)
theorem fail_done {s s' : Nat} {fn : Func} (hr : fn.results = #[.cell s 50, .tmp s']) {w V : World} {g b : Nat} {l : List UInt8} {bad : Int} {i : Nat} {q : Nat × Int} {v v2 : Value} {tm : Array Value} {vs : List Value} (hg : w.heap.size <= g) (hb : b ≠ g) (HT : RowAt V g vs) (h6 : vs.length = 6) (hs : ∃ s, vs[1]'(by omega) = .string s) (HX : LexAt V b l bad i v2) (HE : ErrIs V v (.inr q)) (HE2 : ErrIs V v2 (.inr q)) (HG : w.grownBy V (some b))
  (h4 : tm.getD s undef = .pointer (some ⟨g, 0, none⟩)) (h5 : tm.getD s' undef = v) :
  bodyPost Tryz.prog fn (FailPost w b l bad i q) .ret { tmps := tm, defers := [] } (six V g 0 ⟨#[]⟩ ⟨#[]⟩ ⟨#[]⟩ 0 0) :=
 bodyPost_ret (results_tv fn hr tm _ g v 0 ⟨#[]⟩ ⟨#[]⟩ ⟨#[]⟩ 0 0 h4 h5 (six_row HT h6 _ _ _ _ _ _)) rfl ⟨v, v2, rfl, six_lex HX hb _ _ _ _ _ _, six_err HE HT h6 hs _ _ _ _ _ _, six_err HE2 HT h6 hs _ _ _ _ _ _, six_grown HG hg _ _ _ _ _ _⟩
theorem fail_new (w : World) (p n : Int) : RowAt ((w.alloc (.cells #[.int .i64 p, .int .i64 n] 111)).alloc (.cells #[.int .i64 0, .string ⟨#[]⟩, .string ⟨#[]⟩, .string ⟨#[]⟩, .int .i64 0, .int .i64 0] 50)) w.heap.size [.int .i64 p, .int .i64 n] /\ RowAt ((w.alloc (.cells #[.int .i64 p, .int .i64 n] 111)).alloc (.cells #[.int .i64 0, .string ⟨#[]⟩, .string ⟨#[]⟩, .string ⟨#[]⟩, .int .i64 0, .int .i64 0] 50)) (w.heap.size + 1) TokZ := by
 have h0 := heap_alloc_new w (.cells #[.int .i64 p, .int .i64 n] 111)
 have h1 := (heap_alloc_old (w.alloc (.cells #[.int .i64 p, .int .i64 n] 111)) (.cells #[.int .i64 0, .string ⟨#[]⟩, .string ⟨#[]⟩, .string ⟨#[]⟩, .int .i64 0, .int .i64 0] 50) (r := w.heap.size) (by simp)).trans h0
 have h2 := heap_alloc_new (w.alloc (.cells #[.int .i64 p, .int .i64 n] 111)) (.cells #[.int .i64 0, .string ⟨#[]⟩, .string ⟨#[]⟩, .string ⟨#[]⟩, .int .i64 0, .int .i64 0] 50)
 rw [show (w.alloc (.cells #[.int .i64 p, .int .i64 n] 111)).heap.size = w.heap.size + 1 by simp] at h2
 exact ⟨rowAt_of_heap h1, rowAt_of_heap h2⟩
theorem fail_err {V : World} {b S : Nat} {l : List UInt8} {bad : Int} {i : Nat} {ev : Value} (h : LexAt V b l bad i ev) (hS : V.heap.size = S) {p : Nat} {p' n n' : Int} (hp : Hid (p' = (p : Int) /\ n' = n)) :
  LexAt ((V.alloc (.cells #[.int .i64 p', .iface 74 (.int .i64 n')] 95)).setCell ⟨b, 3, none⟩ (.iface 91 (.pointer (some ⟨S, 0, none⟩)))) b l bad i (.iface 91 (.pointer (some ⟨S, 0, none⟩))) /\
  ErrIs ((V.alloc (.cells #[.int .i64 p', .iface 74 (.int .i64 n')] 95)).setCell ⟨b, 3, none⟩ (.iface 91 (.pointer (some ⟨S, 0, none⟩)))) (.iface 91 (.pointer (some ⟨S, 0, none⟩))) (.inr (p, n)) := by
 obtain ⟨rfl, rfl⟩ := hp.out
 subst hS
 have hne : b ≠ V.heap.size := Nat.ne_of_lt h.lt
 refine ⟨(h.below ((Below.refl _ _).alloc (Nat.le_refl _) _)).err _, V.heap.size, rfl, ?_, ?_⟩
 ·rw [World.cell?_setCell_other _ _ _ _ (fun e => hne (congrArg Addr.block e))]; exact (boxP_at (w := V)).1
 ·rw [World.cell?_setCell_other _ _ _ _ (fun e => hne (congrArg Addr.block e))]; exact (boxP_at (w := V)).2
theorem fail_err2 {V : World} {b S : Nat} {l : List UInt8} {bad : Int} {i : Nat} {ev : Value} (h : LexAt V b l bad i ev) (hS : V.heap.size = S) {p : Nat} {p' n n' : Int} (hp : Hid (p' = (p : Int) /\ n' = n)) :
  LexAt ((V.setCell ⟨b, 3, none⟩ (.iface 91 (.pointer (some ⟨S, 0, none⟩)))).alloc (.cells #[.int .i64 p', .iface 74 (.int .i64 n')] 95)) b l bad i (.iface 91 (.pointer (some ⟨S, 0, none⟩))) /\
  ErrIs ((V.setCell ⟨b, 3, none⟩ (.iface 91 (.pointer (some ⟨S, 0, none⟩)))).alloc (.cells #[.int .i64 p', .iface 74 (.int .i64 n')] 95)) (.iface 91 (.pointer (some ⟨S, 0, none⟩))) (.inr (p, n)) := by
 obtain ⟨rfl, rfl⟩ := hp.out
 subst hS
 have hs : (V.setCell ⟨b, 3, none⟩ (.iface 91 (.pointer (some ⟨V.heap.size, 0, none⟩)))).heap.size = V.heap.size := by simp
 have h1 := boxP_at (w := V.setCell ⟨b, 3, none⟩ (.iface 91 (.pointer (some ⟨V.heap.size, 0, none⟩)))) (x := .int .i64 (p : Int)) (y := .iface 74 (.int .i64 n')) (T := 95)
 rw [hs] at h1
 exact ⟨(h.err _).below ((Below.refl _ _).alloc (Nat.le_refl _) _), V.heap.size, rfl, h1.1, h1.2⟩
theorem rowN {W : World} {g : Nat} {vs : List Value} (h : RowAt W g vs) (n : Nat) : RowAt (W.drewN n) g vs := h
theorem fail_two {V : World} {b g : Nat} {l : List UInt8} {bad : Int} {i : Nat} {ev : Value} (h : LexAt V b l bad i ev) (hne : ¬ b = g) (x y : Value) : LexAt ((V.setCell ⟨g, 0, none⟩ x).setCell ⟨g, 1, none⟩ y) b l bad i ev := (RowAt.other (RowAt.other h hne x) hne y)
theorem fail_tok2 {V : World} {g b : Nat} {vs : List Value} {o : Obj} {v : Value} (h : RowAt V g vs) (hg : g < V.heap.size) (hne : g ≠ b) : RowAt ((V.setCell ⟨b, 3, none⟩ v).alloc o) g vs := (h.other hne v).below ((Below.refl _ _).alloc (Nat.le_refl _) o) (by simpa using hg)
theorem b_alloc {a w : World} {r : Option Nat} (h : a.grownBy w r) (o : Obj) : a.grownBy (w.alloc o) r := grownR_trans h (World.grownBy_alloc w o r)
theorem RowAt.inside {w : World} {g : Nat} {v : Value} {vs : List Value} (h : RowAt w g (v :: vs)) : g < w.heap.size := World.block_lt_of_cell? _ _ (h.cell (j := 0) (by simp))
theorem fail_tok {V : World} {g b : Nat} {vs : List Value} {o : Obj} {v : Value} (h : RowAt V g vs) (hg : g < V.heap.size) (hne : g ≠ b) : RowAt ((V.alloc o).setCell ⟨b, 3, none⟩ v) g vs := (h.below ((Below.refl _ _).alloc (Nat.le_refl _) o) hg).other hne v
theorem row6 {w : World} {g : Nat} {a b c d e f : Value} (h : RowAt w g [a, b, c, d, e, f]) : (w.cell? ⟨g, 0, none⟩ = some a /\ w.cell? ⟨g, 1, none⟩ = some b /\ w.cell? ⟨g, 2, none⟩ = some c /\ w.cell? ⟨g, 3, none⟩ = some d /\ w.cell? ⟨g, 4, none⟩ = some e /\ w.cell? ⟨g, 5, none⟩ = some f) /\ (w.frozen? ⟨g, 0, none⟩ = false /\ w.frozen? ⟨g, 1, none⟩ = false /\ w.frozen? ⟨g, 2, none⟩ = false /\ w.frozen? ⟨g, 3, none⟩ = false /\ w.frozen? ⟨g, 4, none⟩ = false /\ w.frozen? ⟨g, 5, none⟩ = false) :=
 ⟨⟨h.cell (j := 0) (by simp), h.cell (j := 1) (by simp), h.cell (j := 2) (by simp), h.cell (j := 3) (by simp), h.cell (j := 4) (by simp), h.cell (j := 5) (by simp)⟩, h.free (j := 0) (by simp), h.free (j := 1) (by simp), h.free (j := 2) (by simp), h.free (j := 3) (by simp), h.free (j := 4) (by simp), h.free (j := 5) (by simp)⟩
set_option maxHeartbeats 3200000 in
theorem lexFail_c (l : List UInt8) (bad : Int) (i : Nat) (ev : Value) (b : Nat) (w : World) (p P : Nat) (n N : Int) (h : LexAt w b l bad i ev) (d1 d2 : Bool) (e1 : decide ((0 : Int) <= bad) = d1) (e2 : decide (bad <= (p : Int)) = d2) (hq : Hid (if d1 = true /\ d2 = true then bad = (P : Int) /\ N = 40 else P = p /\ N = n)) :
  Calls Tryz.prog 44 #[.pointer (some ⟨b, 0, none⟩), .agg #[.int .i64 (p : Int), .int .i64 n]] w (FailPost w b l bad i (P, N)) := by
 obtain ⟨W, hW⟩ : ∃ W, (w.alloc (.cells #[.int .i64 (p : Int), .int .i64 n] 111)).alloc (.cells #[.int .i64 0, .string ⟨#[]⟩, .string ⟨#[]⟩, .string ⟨#[]⟩, .int .i64 0, .int .i64 0] 50) = W := ⟨_, rfl⟩
 have HB0 : Hid (Below w.heap.size w W) := hid (by rw [<- hW]; exact ((Below.refl _ _).alloc (Nat.le_refl _) _).alloc (by simp) _)
 have HF : Hid (RowAt W w.heap.size [.int .i64 (p : Int), .int .i64 n]) := hid (by rw [<- hW]; exact (fail_new w _ _).1)
 have HT : Hid (RowAt W (w.heap.size + 1) TokZ) := hid (by rw [<- hW]; exact (fail_new w _ _).2)
 have HX := hid (h.below HB0.out)
 have hn0 : ¬ b = w.heap.size := by have := h.lt; omega
 have hn1 : ¬ b = w.heap.size + 1 := by have := h.lt; omega
 have HG : Hid (w.grownBy W (some b)) := hid (below_grown HB0.out _)
 have FR := hid (fun (u : World) (v : Value) (hx : LexAt u b l bad i v) (he : ErrIs u v (.inr (P, N))) => lexFresh_l l bad i v b P N u hx he)
 obtain ⟨x0, x1, x2, x3, f0, f1, f2, f3⟩ := RowAt.four HX.out
 have hbl := HX.out.lt
 have q0 := HF.out.cell (j := 0) (by simp)
 have q1 := HF.out.cell (j := 1) (by simp)
 have g0 := HF.out.free (j := 0) (by simp)
 have g1 := HF.out.free (j := 1) (by simp)
 simp only [List.getElem_cons_zero, List.getElem_cons_succ] at q0 q1
 have F3 : ∀ (n : Nat) (o : Obj), ((W.drewN n).alloc o).frozen? ⟨b, 3, none⟩ = false := fun n o => ((HX.out.drewN n).below ((Below.refl _ _).alloc (Nat.le_refl _) o)).free (j := 3) (by simp)
 have C3 : ∀ (n : Nat) (o : Obj), ((W.drewN n).alloc o).cell? ⟨b, 3, none⟩ = some ev := fun n o => ((HX.out.drewN n).below ((Below.refl _ _).alloc (Nat.le_refl _) o)).cell (j := 3) (by simp)
 clear h
 go_enter Tryz.func44, Tryz.ntmps44
 cases d1
 ·have HP : Hid ((p : Int) = (P : Int) /\ n = N) := hid (have hp : P = p /\ N = n := (by simpa using hq.out); ⟨by rw [hp.1], hp.2.symm⟩)
  clear hq
  go_wp2_with fail
  go_quiet (fail)
  go_wp2_with (go_at_call 42; (refine (FR.out _ _ (fail_err (HX.out.drewN _) (by simp) HP).1 (fail_err (HX.out.drewN _) (by simp) HP).2).mono ?_); rintro e w3 ⟨⟨v, rfl, hv⟩, hb⟩; obtain ⟨v2, hv2⟩ : ∃ v2, Hid (LexAt w3 b l bad i v2 /\ ErrIs w3 v2 (.inr (P, N))) := ⟨_, hid ⟨(fail_err (HX.out.drewN _) (by simp) HP).1.below hb, (fail_err (HX.out.drewN _) (by simp) HP).2.below hb⟩⟩; have HT3 := hid (RowAt.below (fail_tok (b := b) (rowN HT.out _) (by simpa using HT.out.inside) (Ne.symm hn1)) hb (by have := HT.out.inside; simp; omega)); have HG3 := hid (grownL_below (grownR_trans (b_alloc (grown_drewN HG.out _) _) (grownBy_setCell1 _ b 3 _)) hb); have HV := hid hv; clear hv F3 C3 x0 x1 x2 x3 f0 f1 f2 f3 q0 q1 g0 g1 hbl; obtain ⟨⟨a0, a1, a2, a3, a4, a5⟩, p0, p1, p2, p3, p4, p5⟩ := row6 HT3.out; have hlt : w.heap.size + 1 < w3.heap.size := HT3.out.inside)
  refine fail_done (s := 4) (s' := 5) rfl (Nat.le_succ _) hn1 HT3.out rfl ⟨_, rfl⟩ hv2.out.1 HV.out hv2.out.2 HG3.out ?_ ?_ <;> rfl
 ·cases d2
  ·have HP : Hid ((p : Int) = (P : Int) /\ n = N) := hid (have hp : P = p /\ N = n := (by simpa using hq.out); ⟨by rw [hp.1], hp.2.symm⟩)
   clear hq
   go_wp2_with fail
   go_quiet (fail)
   go_wp2_with (go_at_call 42; (refine (FR.out _ _ (fail_err (HX.out.drewN _) (by simp) HP).1 (fail_err (HX.out.drewN _) (by simp) HP).2).mono ?_); rintro e w3 ⟨⟨v, rfl, hv⟩, hb⟩; obtain ⟨v2, hv2⟩ : ∃ v2, Hid (LexAt w3 b l bad i v2 /\ ErrIs w3 v2 (.inr (P, N))) := ⟨_, hid ⟨(fail_err (HX.out.drewN _) (by simp) HP).1.below hb, (fail_err (HX.out.drewN _) (by simp) HP).2.below hb⟩⟩; have HT3 := hid (RowAt.below (fail_tok (b := b) (rowN HT.out _) (by simpa using HT.out.inside) (Ne.symm hn1)) hb (by have := HT.out.inside; simp; omega)); have HG3 := hid (grownL_below (grownR_trans (b_alloc (grown_drewN HG.out _) _) (grownBy_setCell1 _ b 3 _)) hb); have HV := hid hv; clear hv F3 C3 x0 x1 x2 x3 f0 f1 f2 f3 q0 q1 g0 g1 hbl; obtain ⟨⟨a0, a1, a2, a3, a4, a5⟩, p0, p1, p2, p3, p4, p5⟩ := row6 HT3.out; have hlt : w.heap.size + 1 < w3.heap.size := HT3.out.inside)
   refine fail_done (s := 4) (s' := 5) rfl (Nat.le_succ _) hn1 HT3.out rfl ⟨_, rfl⟩ hv2.out.1 HV.out hv2.out.2 HG3.out ?_ ?_ <;> rfl
  ·have HP : Hid (bad = (P : Int) /\ 40 = N) := hid (have hp : bad = (P : Int) /\ N = 40 := (by simpa using hq.out); ⟨hp.1, hp.2.symm⟩)
   clear hq
   go_wp2_with fail
   go_quiet (fail)
   go_wp2_with (go_at_call 42; (refine (FR.out _ _ (fail_err2 (fail_two (HX.out.drewN _) hn0 _ _) (by simp) HP).1 (fail_err2 (fail_two (HX.out.drewN _) hn0 _ _) (by simp) HP).2).mono ?_); rintro e w3 ⟨⟨v, rfl, hv⟩, hb⟩; obtain ⟨v2, hv2⟩ : ∃ v2, Hid (LexAt w3 b l bad i v2 /\ ErrIs w3 v2 (.inr (P, N))) := ⟨_, hid ⟨(fail_err2 (fail_two (HX.out.drewN _) hn0 _ _) (by simp) HP).1.below hb, (fail_err2 (fail_two (HX.out.drewN _) hn0 _ _) (by simp) HP).2.below hb⟩⟩; have HT3 := hid (RowAt.below (fail_tok2 (b := b) (((rowN HT.out _).other (g' := w.heap.size) (o := 0) (Nat.succ_ne_self _) (.int .i64 bad)).other (g' := w.heap.size) (o := 1) (Nat.succ_ne_self _) (.int .i64 40)) (by simpa using HT.out.inside) (Ne.symm hn1)) hb (by have := HT.out.inside; simp; omega)); have HG3 := hid (grownL_below (b_alloc (grownR_trans (grown_set (grown_set (grown_drewN HG.out _) (Nat.le_refl _) _) (Nat.le_refl _) _) (grownBy_setCell1 _ b 3 _)) _) hb); have HV := hid hv; clear hv F3 C3 x0 x1 x2 x3 f0 f1 f2 f3 q0 q1 g0 g1 hbl; obtain ⟨⟨a0, a1, a2, a3, a4, a5⟩, p0, p1, p2, p3, p4, p5⟩ := row6 HT3.out; have hlt : w.heap.size + 1 < w3.heap.size := HT3.out.inside)
   refine fail_done (s := 4) (s' := 5) rfl (Nat.le_succ _) hn1 HT3.out rfl ⟨_, rfl⟩ hv2.out.1 HV.out hv2.out.2 HG3.out ?_ ?_ <;> rfl
end Go.Proofs.YtdhmpakhdhdebaaGreatDoor
