/-
  lexis.Lexer.token: a contract. By an AI agent.
-/
import Derived.Test.YtdhmpakhdhdebaaGreatDoorZLexW14
namespace Go.Proofs.YtdhmpakhdhdebaaGreatDoor
open Go.RowKit
set_option maxRecDepth 100000
theorem tokRet_open {e : Ending} {i : Nat} {r : TokR} (h : TokRet e i r) : ∃ k x y z a f p n, e = .returned (.tuple #[tokV k x y z a f, .agg #[.int .i64 p, .int .i64 n]]) := by
 rcases r with t | ⟨p, n⟩
 · exact ⟨_, _, _, _, _, _, _, _, h⟩
 · obtain ⟨k, x, y, z, a, f, h⟩ := h
   exact ⟨_, _, _, _, _, _, _, _, h⟩
theorem ix_has (L : List UInt8) (c : UInt8) : decide (0 <= Lib.indexByte L c) = L.contains c := by
 cases h : L.contains c with
 | true => exact decide_eq_true (ix_some _ _ (List.contains_iff_mem.1 h))
 | false => rw [ix_none _ c (fun b hb e => by rw [List.contains_iff_mem.2 (e ▸ hb)] at h; cases h)]; rfl
theorem enc_sign {c : UInt8} (h : signs8.contains c = true) : Utf8.encode (c.toNat : Int) = B [c] := by
 have hm : c ∈ signs8 := List.contains_iff_mem.1 h
 unfold signs8 at hm
 simp only [List.mem_cons, List.not_mem_nil, or_false] at hm
 rcases hm with e | e | e | e | e | e | e | e <;> (rw [e]; first | decide | (unfold Utf8.encode; rfl) | (simp [Utf8.encode, B]; done) | (unfold Utf8.encode; simp; rfl))
set_option maxHeartbeats 12800000 in
theorem lexToken_l (l : List UInt8) (bad : Int) (i : Nat) (ev : Value) (b : Nat) (w : World) (h : LexAt w b l bad i ev) (hi : i < l.length) (hl : l.length <= 4194304) (hT : TabAt w) (hM : MaxAt w) :
   Calls Tryz.prog 45 #[.pointer (some ⟨b, 0, none⟩)] w fun e w' => TokRet e i (tokG l i) /\ Below w.heap.size w w' := by
 rw [<- tok_eq hi]
 have IR := Lib.hid (fun (u : World) (hb : Below w.heap.size w u) => lexIri_l l bad i ev b u (h.below hb) hi hl)
 have BL := Lib.hid (fun (hc : l.getD i 0 = 95) (u : World) (hb : Below w.heap.size w u) => lexBlank_l l bad i ev b u (h.below hb) hi hc (by omega) (hT.below hb))
 have QU := Lib.hid (fun (hc : l.getD i 0 = 34 \/ l.getD i 0 = 39) (u : World) (hb : Below w.heap.size w u) => lexQuoted_l l bad i ev b u (h.below hb) hi hl hc)
 have TA := Lib.hid (fun (u : World) (hb : Below w.heap.size w u) => lexTagged_l l bad i ev b u (h.below hb) hi hl (hM.below hb))
 have NU := Lib.hid (fun (u : World) (hb : Below w.heap.size w u) => lexNumber_l l bad i ev b u (h.below hb) hi hl)
 have NA := Lib.hid (fun (u : World) (hb : Below w.heap.size w u) => lexNamed_l l bad i ev b u (h.below hb) hi hl (hT.below hb))
 have hg : l.getD i 0 = l[i] := by simp [List.getD, hi]
 have HG := Lib.hid hg
 have DG := Lib.hid (lexDigit_l l[i])
 have IB := Lib.hid (fun (u : World) => show Calls Tryz.prog 72 #[.string { data := #[59, 44, 91, 93, 40, 41, 123, 125] }, .int .u8 (l[i].toNat : Int)] u (fun e w' => e = .returned (.int .i64 (Lib.indexByte signs8 l[i])) /\ w' = u) from by
   have h := Tryz.strings_IndexByte { data := #[59, 44, 91, 93, 40, 41, 123, 125] } (l[i].toNat : Int) u
   rw [show ((l[i].toNat : Int).toNat.toUInt8) = l[i] from by simp] at h
   exact h)
 have tk : List.take (l.length - i) (List.drop i l) = List.drop i l := List.take_of_length_le (by simp)
 have k2 : (i : Int) < (l.length : Int) := by omega
 clear hT hM hg
 obtain ⟨W, hW⟩ : ∃ W, (w.alloc (.cells #[.int .i64 0, .string ⟨#[]⟩, .string ⟨#[]⟩, .string ⟨#[]⟩, .int .i64 0, .int .i64 0] 50)).alloc (.cells #[.int .i64 0, .int .i64 0] 111) = W := ⟨_, rfl⟩
 have HB0 : Hid (Below w.heap.size w W) := Lib.hid (by rw [<- hW]; exact ((Below.refl _ _).alloc (Nat.le_refl _) _).alloc (by simp) _)
 have HK : Hid (TkAt W w.heap.size) := Lib.hid (by rw [<- hW]; exact tkAt_of (tk_new w).1 (tk_new w).2)
 have HX := Lib.hid (h.below HB0.out)
 have hn0 : ¬ b = w.heap.size := by have := h.lt; omega
 have hn1 : ¬ b = w.heap.size + 1 := by have := h.lt; omega
 have k0 : (0 : Int) <= (i : Int) := by omega
 have k1 : (i : Int) <= (l.length : Int) := by omega
 obtain ⟨x0, x1, x2, x3, f0, f1, f2, f3⟩ := RowAt.four HX.out
 have hbl := HX.out.lt
 obtain ⟨a0, a1, a2, a3, a4, a5, p0, p1, p2, p3, p4, p5, d0, d1, e0, e1, hlt⟩ := HK.out
 have hlt0 := Nat.lt_of_succ_lt hlt
 go_enter Tryz.func45, Tryz.ntmps45
 go_wp2_with fail
 go_quiet (fail)
 by_cases c60 : l[i] = 60
 · have y60 : ((l[i].toNat : Int) == 60) = true := by rw [c60]; rfl
   have HI : Hid (tokP l i = iriG l i) := Lib.hid (by unfold tokP; rw [HG.out]; rw [if_pos c60])
   go_wp2_with (first | (go_at_call 66; (with_reducible refine (IR.out _ ?_).mono ?_); (first | (with_reducible exact HB0.out) | exact below_drewN_h HB0.out _); rintro e w3 ⟨he, hb⟩; obtain ⟨k, x, y, z, a, f, p, n, he2⟩ := tokRet_open he; rw [he2] at he; rw [he2]; clear he2; unfold tokV; replace HX := Lib.hid (@LexAt.below _ _ b l bad i ev (by exact HX.out) hb); replace HK := Lib.hid (@TkAt.below _ _ _ (by exact TkAt.same HK.out) hb); replace HB0 := Lib.hid (below_same HB0.out hb); clear x0 x1 x2 x3 f0 f1 f2 f3 hbl a0 a1 a2 a3 a4 a5 p0 p1 p2 p3 p4 p5 d0 d1 e0 e1 hlt hlt0 hb; obtain ⟨x0, x1, x2, x3, f0, f1, f2, f3⟩ := RowAt.four HX.out; have hbl := HX.out.lt; obtain ⟨a0, a1, a2, a3, a4, a5, p0, p1, p2, p3, p4, p5, d0, d1, e0, e1, hlt⟩ := HK.out; have hlt0 := Nat.lt_of_succ_lt hlt))
   exact tok_done rfl HK.out HB0.out rfl rfl (by rw [HI.out]; exact he)
 have y60 : ((l[i].toNat : Int) == 60) = false := byte_ne (d := 60) c60
 by_cases c95 : l[i] = 95
 · have y95 : ((l[i].toNat : Int) == 95) = true := by rw [c95]; rfl
   have HI : Hid (tokP l i = labelG l i) := Lib.hid (by unfold tokP; rw [HG.out]; rw [if_neg c60, if_pos c95])
   go_wp2_with (first | (go_at_call 67; (with_reducible refine (BL.out (by rw [HG.out]; exact c95) _ ?_).mono ?_); (first | (with_reducible exact HB0.out) | exact below_drewN_h HB0.out _); rintro e w3 ⟨he, hb⟩; obtain ⟨k, x, y, z, a, f, p, n, he2⟩ := tokRet_open he; rw [he2] at he; rw [he2]; clear he2; unfold tokV; replace HX := Lib.hid (@LexAt.below _ _ b l bad i ev (by exact HX.out) hb); replace HK := Lib.hid (@TkAt.below _ _ _ (by exact TkAt.same HK.out) hb); replace HB0 := Lib.hid (below_same HB0.out hb); clear x0 x1 x2 x3 f0 f1 f2 f3 hbl a0 a1 a2 a3 a4 a5 p0 p1 p2 p3 p4 p5 d0 d1 e0 e1 hlt hlt0 hb; obtain ⟨x0, x1, x2, x3, f0, f1, f2, f3⟩ := RowAt.four HX.out; have hbl := HX.out.lt; obtain ⟨a0, a1, a2, a3, a4, a5, p0, p1, p2, p3, p4, p5, d0, d1, e0, e1, hlt⟩ := HK.out; have hlt0 := Nat.lt_of_succ_lt hlt))
   exact tok_done rfl HK.out HB0.out rfl rfl (by rw [HI.out]; exact he)
 have y95 : ((l[i].toNat : Int) == 95) = false := byte_ne (d := 95) c95
 by_cases c34 : l[i] = 34
 · have y34 : ((l[i].toNat : Int) == 34) = true := by rw [c34]; rfl
   have HI : Hid (tokP l i = quoteG l i) := Lib.hid (by unfold tokP; rw [HG.out]; rw [if_neg c60, if_neg c95, if_pos (.inl c34)])
   go_wp2_with (first | (go_at_call 68; (with_reducible refine (QU.out (by rw [HG.out]; exact .inl c34) _ ?_).mono ?_); (first | (with_reducible exact HB0.out) | exact below_drewN_h HB0.out _); rintro e w3 ⟨he, hb⟩; obtain ⟨k, x, y, z, a, f, p, n, he2⟩ := tokRet_open he; rw [he2] at he; rw [he2]; clear he2; unfold tokV; replace HX := Lib.hid (@LexAt.below _ _ b l bad i ev (by exact HX.out) hb); replace HK := Lib.hid (@TkAt.below _ _ _ (by exact TkAt.same HK.out) hb); replace HB0 := Lib.hid (below_same HB0.out hb); clear x0 x1 x2 x3 f0 f1 f2 f3 hbl a0 a1 a2 a3 a4 a5 p0 p1 p2 p3 p4 p5 d0 d1 e0 e1 hlt hlt0 hb; obtain ⟨x0, x1, x2, x3, f0, f1, f2, f3⟩ := RowAt.four HX.out; have hbl := HX.out.lt; obtain ⟨a0, a1, a2, a3, a4, a5, p0, p1, p2, p3, p4, p5, d0, d1, e0, e1, hlt⟩ := HK.out; have hlt0 := Nat.lt_of_succ_lt hlt))
   exact tok_done rfl HK.out HB0.out rfl rfl (by rw [HI.out]; exact he)
 have y34 : ((l[i].toNat : Int) == 34) = false := byte_ne (d := 34) c34
 by_cases c39 : l[i] = 39
 · have y39 : ((l[i].toNat : Int) == 39) = true := by rw [c39]; rfl
   have HI : Hid (tokP l i = quoteG l i) := Lib.hid (by unfold tokP; rw [HG.out]; rw [if_neg c60, if_neg c95, if_pos (.inr c39)])
   go_wp2_with (first | (go_at_call 68; (with_reducible refine (QU.out (by rw [HG.out]; exact .inr c39) _ ?_).mono ?_); (first | (with_reducible exact HB0.out) | exact below_drewN_h HB0.out _); rintro e w3 ⟨he, hb⟩; obtain ⟨k, x, y, z, a, f, p, n, he2⟩ := tokRet_open he; rw [he2] at he; rw [he2]; clear he2; unfold tokV; replace HX := Lib.hid (@LexAt.below _ _ b l bad i ev (by exact HX.out) hb); replace HK := Lib.hid (@TkAt.below _ _ _ (by exact TkAt.same HK.out) hb); replace HB0 := Lib.hid (below_same HB0.out hb); clear x0 x1 x2 x3 f0 f1 f2 f3 hbl a0 a1 a2 a3 a4 a5 p0 p1 p2 p3 p4 p5 d0 d1 e0 e1 hlt hlt0 hb; obtain ⟨x0, x1, x2, x3, f0, f1, f2, f3⟩ := RowAt.four HX.out; have hbl := HX.out.lt; obtain ⟨a0, a1, a2, a3, a4, a5, p0, p1, p2, p3, p4, p5, d0, d1, e0, e1, hlt⟩ := HK.out; have hlt0 := Nat.lt_of_succ_lt hlt))
   exact tok_done rfl HK.out HB0.out rfl rfl (by rw [HI.out]; exact he)
 have y39 : ((l[i].toNat : Int) == 39) = false := byte_ne (d := 39) c39
 by_cases c64 : l[i] = 64
 · have y64 : ((l[i].toNat : Int) == 64) = true := by rw [c64]; rfl
   have HI : Hid (tokP l i = atG l i) := Lib.hid (by unfold tokP; rw [HG.out]; rw [if_neg c60, if_neg c95, if_neg (by rintro (e | e); exact c34 e; exact c39 e), if_pos c64])
   go_wp2_with (first | (go_at_call 69; (with_reducible refine (TA.out _ ?_).mono ?_); (first | (with_reducible exact HB0.out) | exact below_drewN_h HB0.out _); rintro e w3 ⟨he, hb⟩; obtain ⟨k, x, y, z, a, f, p, n, he2⟩ := tokRet_open he; rw [he2] at he; rw [he2]; clear he2; unfold tokV; replace HX := Lib.hid (@LexAt.below _ _ b l bad i ev (by exact HX.out) hb); replace HK := Lib.hid (@TkAt.below _ _ _ (by exact TkAt.same HK.out) hb); replace HB0 := Lib.hid (below_same HB0.out hb); clear x0 x1 x2 x3 f0 f1 f2 f3 hbl a0 a1 a2 a3 a4 a5 p0 p1 p2 p3 p4 p5 d0 d1 e0 e1 hlt hlt0 hb; obtain ⟨x0, x1, x2, x3, f0, f1, f2, f3⟩ := RowAt.four HX.out; have hbl := HX.out.lt; obtain ⟨a0, a1, a2, a3, a4, a5, p0, p1, p2, p3, p4, p5, d0, d1, e0, e1, hlt⟩ := HK.out; have hlt0 := Nat.lt_of_succ_lt hlt))
   exact tok_done rfl HK.out HB0.out rfl rfl (by rw [HI.out]; exact he)
 have y64 : ((l[i].toNat : Int) == 64) = false := byte_ne (d := 64) c64
 by_cases c43 : l[i] = 43
 · have y43 : ((l[i].toNat : Int) == 43) = true := by rw [c43]; rfl
   have HI : Hid (tokP l i = numTok l i) := Lib.hid (by unfold tokP; rw [HG.out]; rw [if_neg c60, if_neg c95, if_neg (by rintro (e | e); exact c34 e; exact c39 e), if_neg c64, if_pos (.inl c43)])
   go_wp2_with (first | (go_at_call 71; (with_reducible refine (NU.out _ ?_).mono ?_); (first | (with_reducible exact HB0.out) | exact below_drewN_h HB0.out _); rintro e w3 ⟨he, hb⟩; obtain ⟨k, x, y, z, a, f, p, n, he2⟩ := tokRet_open he; rw [he2] at he; rw [he2]; clear he2; unfold tokV; replace HX := Lib.hid (@LexAt.below _ _ b l bad i ev (by exact HX.out) hb); replace HK := Lib.hid (@TkAt.below _ _ _ (by exact TkAt.same HK.out) hb); replace HB0 := Lib.hid (below_same HB0.out hb); clear x0 x1 x2 x3 f0 f1 f2 f3 hbl a0 a1 a2 a3 a4 a5 p0 p1 p2 p3 p4 p5 d0 d1 e0 e1 hlt hlt0 hb; obtain ⟨x0, x1, x2, x3, f0, f1, f2, f3⟩ := RowAt.four HX.out; have hbl := HX.out.lt; obtain ⟨a0, a1, a2, a3, a4, a5, p0, p1, p2, p3, p4, p5, d0, d1, e0, e1, hlt⟩ := HK.out; have hlt0 := Nat.lt_of_succ_lt hlt))
   exact tok_done rfl HK.out HB0.out rfl rfl (by rw [HI.out]; exact he)
 have y43 : ((l[i].toNat : Int) == 43) = false := byte_ne (d := 43) c43
 by_cases c45 : l[i] = 45
 · have y45 : ((l[i].toNat : Int) == 45) = true := by rw [c45]; rfl
   have HI : Hid (tokP l i = numTok l i) := Lib.hid (by unfold tokP; rw [HG.out]; rw [if_neg c60, if_neg c95, if_neg (by rintro (e | e); exact c34 e; exact c39 e), if_neg c64, if_pos (.inr (.inl c45))])
   go_wp2_with (first | (go_at_call 71; (with_reducible refine (NU.out _ ?_).mono ?_); (first | (with_reducible exact HB0.out) | exact below_drewN_h HB0.out _); rintro e w3 ⟨he, hb⟩; obtain ⟨k, x, y, z, a, f, p, n, he2⟩ := tokRet_open he; rw [he2] at he; rw [he2]; clear he2; unfold tokV; replace HX := Lib.hid (@LexAt.below _ _ b l bad i ev (by exact HX.out) hb); replace HK := Lib.hid (@TkAt.below _ _ _ (by exact TkAt.same HK.out) hb); replace HB0 := Lib.hid (below_same HB0.out hb); clear x0 x1 x2 x3 f0 f1 f2 f3 hbl a0 a1 a2 a3 a4 a5 p0 p1 p2 p3 p4 p5 d0 d1 e0 e1 hlt hlt0 hb; obtain ⟨x0, x1, x2, x3, f0, f1, f2, f3⟩ := RowAt.four HX.out; have hbl := HX.out.lt; obtain ⟨a0, a1, a2, a3, a4, a5, p0, p1, p2, p3, p4, p5, d0, d1, e0, e1, hlt⟩ := HK.out; have hlt0 := Nat.lt_of_succ_lt hlt))
   exact tok_done rfl HK.out HB0.out rfl rfl (by rw [HI.out]; exact he)
 have y45 : ((l[i].toNat : Int) == 45) = false := byte_ne (d := 45) c45
 by_cases c46 : l[i] = 46
 · have y46 : ((l[i].toNat : Int) == 46) = true := by rw [c46]; rfl
   have HI : Hid (tokP l i = numTok l i) := Lib.hid (by unfold tokP; rw [HG.out]; rw [if_neg c60, if_neg c95, if_neg (by rintro (e | e); exact c34 e; exact c39 e), if_neg c64, if_pos (.inr (.inr (.inl c46)))])
   go_wp2_with (first | (go_at_call 71; (with_reducible refine (NU.out _ ?_).mono ?_); (first | (with_reducible exact HB0.out) | exact below_drewN_h HB0.out _); rintro e w3 ⟨he, hb⟩; obtain ⟨k, x, y, z, a, f, p, n, he2⟩ := tokRet_open he; rw [he2] at he; rw [he2]; clear he2; unfold tokV; replace HX := Lib.hid (@LexAt.below _ _ b l bad i ev (by exact HX.out) hb); replace HK := Lib.hid (@TkAt.below _ _ _ (by exact TkAt.same HK.out) hb); replace HB0 := Lib.hid (below_same HB0.out hb); clear x0 x1 x2 x3 f0 f1 f2 f3 hbl a0 a1 a2 a3 a4 a5 p0 p1 p2 p3 p4 p5 d0 d1 e0 e1 hlt hlt0 hb; obtain ⟨x0, x1, x2, x3, f0, f1, f2, f3⟩ := RowAt.four HX.out; have hbl := HX.out.lt; obtain ⟨a0, a1, a2, a3, a4, a5, p0, p1, p2, p3, p4, p5, d0, d1, e0, e1, hlt⟩ := HK.out; have hlt0 := Nat.lt_of_succ_lt hlt))
   exact tok_done rfl HK.out HB0.out rfl rfl (by rw [HI.out]; exact he)
 have y46 : ((l[i].toNat : Int) == 46) = false := byte_ne (d := 46) c46
 obtain ⟨dg, hdg⟩ : ∃ dg, digC l[i] = dg := ⟨_, rfl⟩
 rw [hdg] at DG
 cases dg
 case true =>
   have HI : Hid (tokP l i = numTok l i) := Lib.hid (by unfold tokP; rw [HG.out]; rw [if_neg c60, if_neg c95, if_neg (by rintro (e | e); exact c34 e; exact c39 e), if_neg c64, if_pos (.inr (.inr (.inr hdg)))])
   go_wp2_with (first | (go_at_call 70; (with_reducible refine (DG.out _).mono ?_); rintro e w3 ⟨rfl, hw⟩; rw [hw]; clear hw) | (go_at_call 71; (with_reducible refine (NU.out _ ?_).mono ?_); (first | (with_reducible exact HB0.out) | exact below_drewN_h HB0.out _); rintro e w3 ⟨he, hb⟩; obtain ⟨k, x, y, z, a, f, p, n, he2⟩ := tokRet_open he; rw [he2] at he; rw [he2]; clear he2; unfold tokV; replace HX := Lib.hid (@LexAt.below _ _ b l bad i ev (by exact HX.out) hb); replace HK := Lib.hid (@TkAt.below _ _ _ (by exact TkAt.same HK.out) hb); replace HB0 := Lib.hid (below_same HB0.out hb); clear x0 x1 x2 x3 f0 f1 f2 f3 hbl a0 a1 a2 a3 a4 a5 p0 p1 p2 p3 p4 p5 d0 d1 e0 e1 hlt hlt0 hb; obtain ⟨x0, x1, x2, x3, f0, f1, f2, f3⟩ := RowAt.four HX.out; have hbl := HX.out.lt; obtain ⟨a0, a1, a2, a3, a4, a5, p0, p1, p2, p3, p4, p5, d0, d1, e0, e1, hlt⟩ := HK.out; have hlt0 := Nat.lt_of_succ_lt hlt))
   exact tok_done rfl HK.out HB0.out rfl rfl (by rw [HI.out]; exact he)
 obtain ⟨z8, hz8⟩ : ∃ z8, Lib.indexByte signs8 l[i] = z8 := ⟨_, rfl⟩
 have hq := ix_has signs8 l[i]
 rw [hz8] at IB hq
 obtain ⟨sg, hsg⟩ : ∃ sg, signs8.contains l[i] = sg := ⟨_, rfl⟩
 rw [hsg] at hq
 cases sg
 case true =>
   have HI : Hid (tokP l i = .inl ⟨8, [l[i]], [], [], (i : Nat), (i + 1 : Nat)⟩) := Lib.hid (by unfold tokP; rw [HG.out]; rw [if_neg c60, if_neg c95, if_neg (by rintro (e | e); exact c34 e; exact c39 e), if_neg c64, if_neg (by rintro (e | e | e | e); exact c43 e; exact c45 e; exact c46 e; rw [hdg] at e; cases e), if_pos hsg])
   have HEN := Lib.hid (enc_sign hsg)
   clear hsg hdg hz8
   go_wp2_with (first | (go_at_call 70; (with_reducible refine (DG.out _).mono ?_); rintro e w3 ⟨rfl, hw⟩; rw [hw]; clear hw) | (go_at_call 72; (with_reducible refine (IB.out _).mono ?_); rintro e w3 ⟨rfl, hw⟩; rw [hw]; clear hw))
   exact tok_done rfl (HK.out.drewN _) (below_drewN_h HB0.out _) rfl rfl (by rw [HI.out]; exact tokRet_of (t := ⟨8, [l[i]], [], [], (i : Nat), (i + 1 : Nat)⟩) HEN.out rfl rfl (by simp only; omega))
 have HN : Hid (tokP l i = if l[i] = 94 /\ i + 1 < l.length /\ l.getD (i + 1) 0 = 94 then .inl ⟨8, [94, 94], [], [], (i : Nat), (i + 2 : Nat)⟩ else nameG l i) := Lib.hid (by unfold tokP; rw [HG.out]; rw [if_neg c60, if_neg c95, if_neg (by rintro (e | e); exact c34 e; exact c39 e), if_neg c64, if_neg (by rintro (e | e | e | e); exact c43 e; exact c45 e; exact c46 e; rw [hdg] at e; cases e), if_neg (by rw [hsg]; simp)])
 clear hsg hdg hz8
 by_cases c94 : l[i] = 94
 · have y94 : ((l[i].toNat : Int) == 94) = true := by rw [c94]; rfl
   have DG2 : Hid (∀ u, Calls Tryz.prog 70 #[.int .u8 94] u fun e w' => e = .returned (.bool false) /\ w' = u) := Lib.hid (fun u => by have := DG.out u; rw [c94] at this; exact this)
   have IB2 : Hid (∀ u, Calls Tryz.prog 72 #[.string { data := #[59, 44, 91, 93, 40, 41, 123, 125] }, .int .u8 94] u fun e w' => e = .returned (.int .i64 z8) /\ w' = u) := Lib.hid (fun u => by have := IB.out u; rw [c94] at this; exact this)
   clear DG IB
   have DG := DG2
   have IB := IB2
   clear DG2 IB2
   obtain ⟨pb, hpb⟩ : ∃ pb, decide (i + 1 < l.length /\ l.getD (i + 1) 0 = 94) = pb := ⟨_, rfl⟩
   have HQ : Hid (∀ u, Calls Tryz.prog 73 #[.string (B (List.drop i l)), .string { data := #[94, 94] }] u fun e w' => e = .returned (.bool pb) /\ w' = u) := Lib.hid (fun u => by
     have := Tryz.strings_HasPrefix (B (List.drop i l)) { data := #[94, 94] } u
     rw [show (B (List.drop i l)).data.toList = List.drop i l from B_toList _, show ({ data := #[94, 94] } : ByteArray).data.toList = [94, 94] from rfl, has_two hi (by rw [HG.out]; exact c94), hpb] at this
     exact this)
   cases pb
   · have HI : Hid (tokP l i = nameG l i) := Lib.hid (by rw [HN.out, if_neg (fun x => of_decide_eq_false hpb x.2)])
     clear HN hpb
     go_wp2_with (first | (go_at_call 70; (with_reducible refine (DG.out _).mono ?_); rintro e w3 ⟨rfl, hw⟩; rw [hw]; clear hw) | (go_at_call 72; (with_reducible refine (IB.out _).mono ?_); rintro e w3 ⟨rfl, hw⟩; rw [hw]; clear hw))
     go_quiet ((go_at_call 73; exact quiet_same2 (HQ.out _)))
     go_wp2_with (go_at_call 74; (with_reducible refine (NA.out _ ?_).mono ?_); (first | (with_reducible exact HB0.out) | exact below_drewN_h HB0.out _ | exact below_drewN_h (below_drewN_h HB0.out _) _); rintro e w3 ⟨he, hb⟩; obtain ⟨k, x, y, z, a, f, p, n, he2⟩ := tokRet_open he; rw [he2] at he; rw [he2]; clear he2; unfold tokV; replace HX := Lib.hid (@LexAt.below _ _ b l bad i ev (by exact HX.out) hb); replace HK := Lib.hid (@TkAt.below _ _ _ (by exact TkAt.same HK.out) hb); replace HB0 := Lib.hid (below_same HB0.out hb); clear x0 x1 x2 x3 f0 f1 f2 f3 hbl a0 a1 a2 a3 a4 a5 p0 p1 p2 p3 p4 p5 d0 d1 e0 e1 hlt hlt0 hb; obtain ⟨x0, x1, x2, x3, f0, f1, f2, f3⟩ := RowAt.four HX.out; have hbl := HX.out.lt; obtain ⟨a0, a1, a2, a3, a4, a5, p0, p1, p2, p3, p4, p5, d0, d1, e0, e1, hlt⟩ := HK.out; have hlt0 := Nat.lt_of_succ_lt hlt)
     exact tok_done rfl HK.out HB0.out rfl rfl (by rw [HI.out]; exact he)
   · have HI : Hid (tokP l i = .inl ⟨8, [94, 94], [], [], (i : Nat), (i + 2 : Nat)⟩) := Lib.hid (by rw [HN.out, if_pos ⟨c94, of_decide_eq_true hpb⟩])
     clear HN hpb
     go_wp2_with (first | (go_at_call 70; (with_reducible refine (DG.out _).mono ?_); rintro e w3 ⟨rfl, hw⟩; rw [hw]; clear hw) | (go_at_call 72; (with_reducible refine (IB.out _).mono ?_); rintro e w3 ⟨rfl, hw⟩; rw [hw]; clear hw))
     go_quiet ((go_at_call 73; exact quiet_same2 (HQ.out _)))
     go_wp2_with fail
     exact tok_done rfl (HK.out.drewN _) (below_drewN_h HB0.out _) rfl rfl (by rw [HI.out]; exact tokRet_of (t := ⟨8, [94, 94], [], [], (i : Nat), (i + 2 : Nat)⟩) rfl rfl rfl (by simp only; omega))
 · have y94 : ((l[i].toNat : Int) == 94) = false := byte_ne (d := 94) c94
   have HI : Hid (tokP l i = nameG l i) := Lib.hid (by rw [HN.out, if_neg (fun x => c94 x.1)])
   clear HN
   go_wp2_with (first | (go_at_call 70; (with_reducible refine (DG.out _).mono ?_); rintro e w3 ⟨rfl, hw⟩; rw [hw]; clear hw) | (go_at_call 72; (with_reducible refine (IB.out _).mono ?_); rintro e w3 ⟨rfl, hw⟩; rw [hw]; clear hw))
   go_quiet (fail)
   go_wp2_with (go_at_call 74; (with_reducible refine (NA.out _ ?_).mono ?_); (first | (with_reducible exact HB0.out) | exact below_drewN_h HB0.out _ | exact below_drewN_h (below_drewN_h HB0.out _) _); rintro e w3 ⟨he, hb⟩; obtain ⟨k, x, y, z, a, f, p, n, he2⟩ := tokRet_open he; rw [he2] at he; rw [he2]; clear he2; unfold tokV; replace HX := Lib.hid (@LexAt.below _ _ b l bad i ev (by exact HX.out) hb); replace HK := Lib.hid (@TkAt.below _ _ _ (by exact TkAt.same HK.out) hb); replace HB0 := Lib.hid (below_same HB0.out hb); clear x0 x1 x2 x3 f0 f1 f2 f3 hbl a0 a1 a2 a3 a4 a5 p0 p1 p2 p3 p4 p5 d0 d1 e0 e1 hlt hlt0 hb; obtain ⟨x0, x1, x2, x3, f0, f1, f2, f3⟩ := RowAt.four HX.out; have hbl := HX.out.lt; obtain ⟨a0, a1, a2, a3, a4, a5, p0, p1, p2, p3, p4, p5, d0, d1, e0, e1, hlt⟩ := HK.out; have hlt0 := Nat.lt_of_succ_lt hlt)
   exact tok_done rfl HK.out HB0.out rfl rfl (by rw [HI.out]; exact he)
end Go.Proofs.YtdhmpakhdhdebaaGreatDoor
