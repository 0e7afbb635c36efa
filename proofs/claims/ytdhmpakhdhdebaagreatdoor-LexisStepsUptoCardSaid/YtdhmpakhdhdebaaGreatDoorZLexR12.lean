/-
  tesseraref10.token: a contract. By an AI agent.
-/
import Derived.Test.YtdhmpakhdhdebaaGreatDoorZLexR5
import Derived.Test.YtdhmpakhdhdebaaGreatDoorZLexR10
import Derived.Test.YtdhmpakhdhdebaaGreatDoorZLexW16
import Derived.Test.YtdhmpakhdhdebaaGreatDoorZTerm1
namespace Go.Proofs.YtdhmpakhdhdebaaGreatDoor
open Go.RowKit
set_option maxRecDepth 100000
theorem sg_at (u : World) (k : Nat) (hk : k < 9) : (Instr.index 9 (.string { data := #[46, 59, 44, 91, 93, 40, 41, 123, 125] }) (.int .i64 (k : Int))).run Tryz.prog u = .ok (.int .u8 ((signsW.getD k 0).toNat : Int)) u :=
 match k, hk with
 | 0, _ => by kernel_rfl
 | 1, _ => by kernel_rfl
 | 2, _ => by kernel_rfl
 | 3, _ => by kernel_rfl
 | 4, _ => by kernel_rfl
 | 5, _ => by kernel_rfl
 | 6, _ => by kernel_rfl
 | 7, _ => by kernel_rfl
 | 8, _ => by kernel_rfl
theorem sg_cut (k : Nat) (hk : k < 9) : ({ data := #[46, 59, 44, 91, 93, 40, 41, 123, 125] } : ByteArray).extract k (k + 1) = B [signsW.getD k 0] :=
 match k, hk with
 | 0, _ => by kernel_rfl
 | 1, _ => by kernel_rfl
 | 2, _ => by kernel_rfl
 | 3, _ => by kernel_rfl
 | 4, _ => by kernel_rfl
 | 5, _ => by kernel_rfl
 | 6, _ => by kernel_rfl
 | 7, _ => by kernel_rfl
 | 8, _ => by kernel_rfl
theorem sg_mem {k : Nat} (hk : k < 9) : signsW.contains (signsW.getD k 0) = true := by
 have h : k = 0 \/ k = 1 \/ k = 2 \/ k = 3 \/ k = 4 \/ k = 5 \/ k = 6 \/ k = 7 \/ k = 8 := by omega
 rcases h with rfl | rfl | rfl | rfl | rfl | rfl | rfl | rfl | rfl <;> rfl
theorem sg_all {c : UInt8} (h : ∀ k, k < 9 -> signsW.getD k 0 ≠ c) : signsW.contains c = false := by
 cases hc : signsW.contains c with
 | false => rfl
 | true =>
   obtain ⟨k, hk, he⟩ := List.getElem_of_mem (List.contains_iff_mem.1 hc)
   exact absurd (by rw [<- he]; simp [List.getD, hk]) (h k (by simpa [signsW] using hk))
theorem numG_len (l : List UInt8) (i : Nat) : (numG l i).2.length <= 7 := by
 have h1 : doubleN.length <= 7 := by decide
 have h2 : decimalN.length <= 7 := by decide
 have h3 : integerN.length <= 7 := by decide
 unfold numG
 simp only
 split
 · exact h1
 · split
   · exact h1
   · split
     · exact h2
     · split
       · exact h3
       · exact Nat.zero_le _
set_option maxHeartbeats 6400000 in
theorem refToken10_l (l : List UInt8) (i : Nat) (w : World) (hi : i < l.length) (hl : l.length <= 1048576) :
   Calls Tryz.prog 76 #[.string (B l), .int .i64 (i : Int)] w fun e w' => TokRef e (tokG l i) /\ Below w.heap.size w w' := by
 obtain ⟨W, hW⟩ : ∃ W, (w.alloc (.cells #[.int .i64 0, .string ⟨#[]⟩, .string ⟨#[]⟩, .string ⟨#[]⟩, .int .i64 0, .int .i64 0] 50)).alloc (.cells #[.int .i64 0, .int .i64 0] 64) = W := ⟨_, rfl⟩
 have HB0 : Hid (Below w.heap.size w W) := Lib.hid (by rw [<- hW]; exact ((Below.refl _ _).alloc (Nat.le_refl _) _).alloc (by simp) _)
 have HK : Hid (TkAt W w.heap.size) := Lib.hid (by rw [<- hW]; exact tkr_new w)
 have k0 : (0 : Int) <= (i : Int) := by omega
 have k1 : (i : Int) <= (l.length : Int) := by omega
 obtain ⟨a0, a1, a2, a3, a4, a5, p0, p1, p2, p3, p4, p5, d0, d1, e0, e1, hlt⟩ := HK.out
 have hlt0 := Nat.lt_of_succ_lt hlt
 have i1 : (i : Int) < (l.length : Int) := by omega
 obtain ⟨c, hc⟩ : ∃ c, l[i] = c := ⟨_, rfl⟩
 have hg : l.getD i 0 = c := by simp [List.getD, hi, hc]
 obtain ⟨v, n0, hq⟩ : ∃ v n0, nextAt l (i : Int) = (v, n0) := ⟨_, _, rfl⟩
 obtain ⟨N, T, hN⟩ : ∃ N T, numG l i = (N, T) := ⟨_, _, rfl⟩
 have N2 := Lib.hid (fun (u : World) => hq ▸ refNext_l l i u (by omega) (by omega))
 have NU : Hid (∀ u, Calls Tryz.prog 110 #[.string (B l), .int .i64 (i : Int)] u fun e w' => e = .returned (.tuple #[.int .i64 (N : Nat), .string (B T)]) /\ w' = u) := Lib.hid (fun u => by have h := refNum10_l l i u hi (by omega); rw [hN] at h; exact h)
 have BA := Lib.hid refBase_any
 have HT0 : Hid (tokG l i = if c = 60 then iriG l i
   else if baseB v = true \/ c = 58 then nameG l i
   else if c = 95 then labelG l i
   else if c = 34 \/ c = 39 then quoteG l i
   else if c = 64 then atG l i
   else if i < N then .inl ⟨6, cutF l i N, [], xsdW ++ T, (i : Nat), (N : Nat)⟩
   else if c = 94 /\ i + 1 < l.length /\ l.getD (i + 1) 0 = 94 then .inl ⟨8, [94, 94], [], [], (i : Nat), (i + 2 : Nat)⟩
   else if signsW.contains c = true then .inl ⟨8, [c], [], [], (i : Nat), (i + 1 : Nat)⟩
   else .inr (i, 100)) := Lib.hid (by unfold tokG; rw [hg, hq, hN])
 have hTl : T.length <= 7 := by have := numG_len l i; rw [hN] at this; exact this
 have HNL : Hid (i < N -> N <= l.length) := Lib.hid (fun h => by
   have h2 := (num_eq l i).1
   by_cases h3 : numD l i < (numP l i).1
   · have h4 := numP_le hi
     rw [h2 h3, hN] at h4
     exact h4
   · have h4 := (num_eq l i).2 h3
     rw [hN] at h4
     have h5 : N = i := (Prod.mk.inj h4).1
     omega)
 clear hg hq hN
 go_enter Tryz.func76, Tryz.ntmps76
 go_upto_block 0 with fail
 go_upto_region 4 with (first | (go_at_call 64; (with_reducible refine (N2.out _).mono ?_); rintro e w1 ⟨rfl, hb⟩; replace HK := Lib.hid (HK.out.below hb); replace HB0 := Lib.hid (HB0.out.trans (hb.mono HB0.out.size)); clear a0 a1 a2 a3 a4 a5 p0 p1 p2 p3 p4 p5 d0 d1 e0 e1 hlt hlt0 hb; obtain ⟨a0, a1, a2, a3, a4, a5, p0, p1, p2, p3, p4, p5, d0, d1, e0, e1, hlt⟩ := HK.out; have hlt0 := Nat.lt_of_succ_lt hlt; unfold pairI) | (go_at_call 110; (with_reducible refine (NU.out _).mono ?_); rintro e w2 ⟨rfl, rfl⟩))
 by_cases h60 : c = 60
 · have z60 : ((c.toNat : Int) == 60) = true := byte_eq (d := 60) h60
   clear HNL
   have PA : Hid (∀ u, Calls Tryz.prog 111 #[.string (B l), .int .i64 (i : Int)] u fun e w' => TokRef e (tokG l i) /\ Below u.heap.size u w') := Lib.hid (fun u => by rw [HT0.out, if_pos h60]; exact refIri10_l l i u hi hl)
   clear HT0
   go_wp2_with (first | (go_at_call 111; (with_reducible refine (PA.out _).mono ?_); rintro e w3 ⟨ht, hb⟩; obtain ⟨k, x, y, z, a, f, p, n, rfl⟩ := tokRef_any ht; have HT := Lib.hid ht; clear ht; replace HK := Lib.hid (HK.out.below hb); replace HB0 := Lib.hid (HB0.out.trans (hb.mono HB0.out.size)); clear a0 a1 a2 a3 a4 a5 p0 p1 p2 p3 p4 p5 d0 d1 e0 e1 hlt hlt0 hb; obtain ⟨a0, a1, a2, a3, a4, a5, p0, p1, p2, p3, p4, p5, d0, d1, e0, e1, hlt⟩ := HK.out; have hlt0 := Nat.lt_of_succ_lt hlt; unfold tokV))
   exact tokr_done (V := w3) rfl HK.out HB0.out rfl rfl HT.out
 have z60 : ((c.toNat : Int) == 60) = false := byte_ne (d := 60) h60
 replace HT0 := Lib.hid (HT0.out.trans (if_neg h60))
 clear h60
 cases hb1 : baseB v with
 | true =>
   have PA : Hid (∀ u, Calls Tryz.prog 113 #[.string (B l), .int .i64 (i : Int)] u fun e w' => TokRef e (tokG l i) /\ Below u.heap.size u w') := Lib.hid (fun u => by rw [HT0.out, if_pos (.inl hb1)]; exact refName10_l l i u (by omega) hl)
   clear HT0
   go_wp2_with (first | (go_at_call 112; (with_reducible refine (BA.out v _).mono ?_); rintro e w2 ⟨rfl, hb⟩; replace HK := Lib.hid (HK.out.below hb); replace HB0 := Lib.hid (HB0.out.trans (hb.mono HB0.out.size)); clear a0 a1 a2 a3 a4 a5 p0 p1 p2 p3 p4 p5 d0 d1 e0 e1 hlt hlt0 hb; obtain ⟨a0, a1, a2, a3, a4, a5, p0, p1, p2, p3, p4, p5, d0, d1, e0, e1, hlt⟩ := HK.out; have hlt0 := Nat.lt_of_succ_lt hlt) | (go_at_call 113; (with_reducible refine (PA.out _).mono ?_); rintro e w3 ⟨ht, hb⟩; obtain ⟨k, x, y, z, a, f, p, n, rfl⟩ := tokRef_any ht; have HT := Lib.hid ht; clear ht; replace HK := Lib.hid (HK.out.below hb); replace HB0 := Lib.hid (HB0.out.trans (hb.mono HB0.out.size)); clear a0 a1 a2 a3 a4 a5 p0 p1 p2 p3 p4 p5 d0 d1 e0 e1 hlt hlt0 hb; obtain ⟨a0, a1, a2, a3, a4, a5, p0, p1, p2, p3, p4, p5, d0, d1, e0, e1, hlt⟩ := HK.out; have hlt0 := Nat.lt_of_succ_lt hlt; unfold tokV))
   exact tokr_done (V := w3) rfl HK.out HB0.out rfl rfl HT.out
 | false =>
 by_cases h58 : c = 58
 · have z58 : ((c.toNat : Int) == 58) = true := byte_eq (d := 58) h58
   have PA : Hid (∀ u, Calls Tryz.prog 113 #[.string (B l), .int .i64 (i : Int)] u fun e w' => TokRef e (tokG l i) /\ Below u.heap.size u w') := Lib.hid (fun u => by rw [HT0.out, if_pos (.inr h58)]; exact refName10_l l i u (by omega) hl)
   clear HT0
   go_wp2_with (first | (go_at_call 112; (with_reducible refine (BA.out v _).mono ?_); rintro e w2 ⟨rfl, hb⟩; replace HK := Lib.hid (HK.out.below hb); replace HB0 := Lib.hid (HB0.out.trans (hb.mono HB0.out.size)); clear a0 a1 a2 a3 a4 a5 p0 p1 p2 p3 p4 p5 d0 d1 e0 e1 hlt hlt0 hb; obtain ⟨a0, a1, a2, a3, a4, a5, p0, p1, p2, p3, p4, p5, d0, d1, e0, e1, hlt⟩ := HK.out; have hlt0 := Nat.lt_of_succ_lt hlt) | (go_at_call 113; (with_reducible refine (PA.out _).mono ?_); rintro e w3 ⟨ht, hb⟩; obtain ⟨k, x, y, z, a, f, p, n, rfl⟩ := tokRef_any ht; have HT := Lib.hid ht; clear ht; replace HK := Lib.hid (HK.out.below hb); replace HB0 := Lib.hid (HB0.out.trans (hb.mono HB0.out.size)); clear a0 a1 a2 a3 a4 a5 p0 p1 p2 p3 p4 p5 d0 d1 e0 e1 hlt hlt0 hb; obtain ⟨a0, a1, a2, a3, a4, a5, p0, p1, p2, p3, p4, p5, d0, d1, e0, e1, hlt⟩ := HK.out; have hlt0 := Nat.lt_of_succ_lt hlt; unfold tokV))
   exact tokr_done (V := w3) rfl HK.out HB0.out rfl rfl HT.out
 have z58 : ((c.toNat : Int) == 58) = false := byte_ne (d := 58) h58
 replace HT0 := Lib.hid (HT0.out.trans (if_neg (by rintro (h | h); rw [hb1] at h; cases h; exact h58 h)))
 clear h58
 by_cases h95 : c = 95
 · have z95 : ((c.toNat : Int) == 95) = true := byte_eq (d := 95) h95
   have PA : Hid (∀ u, Calls Tryz.prog 114 #[.string (B l), .int .i64 (i : Int)] u fun e w' => TokRef e (tokG l i) /\ Below u.heap.size u w') := Lib.hid (fun u => by rw [HT0.out, if_pos h95]; exact refLabel10_l l i u hi hl)
   clear HT0
   go_wp2_with (first | (go_at_call 112; (with_reducible refine (BA.out v _).mono ?_); rintro e w2 ⟨rfl, hb⟩; replace HK := Lib.hid (HK.out.below hb); replace HB0 := Lib.hid (HB0.out.trans (hb.mono HB0.out.size)); clear a0 a1 a2 a3 a4 a5 p0 p1 p2 p3 p4 p5 d0 d1 e0 e1 hlt hlt0 hb; obtain ⟨a0, a1, a2, a3, a4, a5, p0, p1, p2, p3, p4, p5, d0, d1, e0, e1, hlt⟩ := HK.out; have hlt0 := Nat.lt_of_succ_lt hlt) | (go_at_call 114; (with_reducible refine (PA.out _).mono ?_); rintro e w3 ⟨ht, hb⟩; obtain ⟨k, x, y, z, a, f, p, n, rfl⟩ := tokRef_any ht; have HT := Lib.hid ht; clear ht; replace HK := Lib.hid (HK.out.below hb); replace HB0 := Lib.hid (HB0.out.trans (hb.mono HB0.out.size)); clear a0 a1 a2 a3 a4 a5 p0 p1 p2 p3 p4 p5 d0 d1 e0 e1 hlt hlt0 hb; obtain ⟨a0, a1, a2, a3, a4, a5, p0, p1, p2, p3, p4, p5, d0, d1, e0, e1, hlt⟩ := HK.out; have hlt0 := Nat.lt_of_succ_lt hlt; unfold tokV))
   exact tokr_done (V := w3) rfl HK.out HB0.out rfl rfl HT.out
 have z95 : ((c.toNat : Int) == 95) = false := byte_ne (d := 95) h95
 replace HT0 := Lib.hid (HT0.out.trans (if_neg h95))
 clear h95
 by_cases hq3 : c = 34 \/ c = 39
 · have PA : Hid (∀ u, Calls Tryz.prog 115 #[.string (B l), .int .i64 (i : Int)] u fun e w' => TokRef e (tokG l i) /\ Below u.heap.size u w') := Lib.hid (fun u => by rw [HT0.out, if_pos hq3]; exact refText10_l l i u hi hl (by rw [hc]; exact hq3))
   clear HT0
   rcases hq3 with h34 | h39
   · have z34 : ((c.toNat : Int) == 34) = true := byte_eq (d := 34) h34
     clear h34
     go_wp2_with (first | (go_at_call 112; (with_reducible refine (BA.out v _).mono ?_); rintro e w2 ⟨rfl, hb⟩; replace HK := Lib.hid (HK.out.below hb); replace HB0 := Lib.hid (HB0.out.trans (hb.mono HB0.out.size)); clear a0 a1 a2 a3 a4 a5 p0 p1 p2 p3 p4 p5 d0 d1 e0 e1 hlt hlt0 hb; obtain ⟨a0, a1, a2, a3, a4, a5, p0, p1, p2, p3, p4, p5, d0, d1, e0, e1, hlt⟩ := HK.out; have hlt0 := Nat.lt_of_succ_lt hlt) | (go_at_call 115; (with_reducible refine (PA.out _).mono ?_); rintro e w3 ⟨ht, hb⟩; obtain ⟨k, x, y, z, a, f, p, n, rfl⟩ := tokRef_any ht; have HT := Lib.hid ht; clear ht; replace HK := Lib.hid (HK.out.below hb); replace HB0 := Lib.hid (HB0.out.trans (hb.mono HB0.out.size)); clear a0 a1 a2 a3 a4 a5 p0 p1 p2 p3 p4 p5 d0 d1 e0 e1 hlt hlt0 hb; obtain ⟨a0, a1, a2, a3, a4, a5, p0, p1, p2, p3, p4, p5, d0, d1, e0, e1, hlt⟩ := HK.out; have hlt0 := Nat.lt_of_succ_lt hlt; unfold tokV))
     exact tokr_done (V := w3) rfl HK.out HB0.out rfl rfl HT.out
   · have z34 : ((c.toNat : Int) == 34) = false := byte_ne (d := 34) (by rw [h39]; decide)
     have z39 : ((c.toNat : Int) == 39) = true := byte_eq (d := 39) h39
     clear h39
     go_wp2_with (first | (go_at_call 112; (with_reducible refine (BA.out v _).mono ?_); rintro e w2 ⟨rfl, hb⟩; replace HK := Lib.hid (HK.out.below hb); replace HB0 := Lib.hid (HB0.out.trans (hb.mono HB0.out.size)); clear a0 a1 a2 a3 a4 a5 p0 p1 p2 p3 p4 p5 d0 d1 e0 e1 hlt hlt0 hb; obtain ⟨a0, a1, a2, a3, a4, a5, p0, p1, p2, p3, p4, p5, d0, d1, e0, e1, hlt⟩ := HK.out; have hlt0 := Nat.lt_of_succ_lt hlt) | (go_at_call 115; (with_reducible refine (PA.out _).mono ?_); rintro e w3 ⟨ht, hb⟩; obtain ⟨k, x, y, z, a, f, p, n, rfl⟩ := tokRef_any ht; have HT := Lib.hid ht; clear ht; replace HK := Lib.hid (HK.out.below hb); replace HB0 := Lib.hid (HB0.out.trans (hb.mono HB0.out.size)); clear a0 a1 a2 a3 a4 a5 p0 p1 p2 p3 p4 p5 d0 d1 e0 e1 hlt hlt0 hb; obtain ⟨a0, a1, a2, a3, a4, a5, p0, p1, p2, p3, p4, p5, d0, d1, e0, e1, hlt⟩ := HK.out; have hlt0 := Nat.lt_of_succ_lt hlt; unfold tokV))
     exact tokr_done (V := w3) rfl HK.out HB0.out rfl rfl HT.out
 have z34 : ((c.toNat : Int) == 34) = false := byte_ne (d := 34) (fun e => hq3 (.inl e))
 have z39 : ((c.toNat : Int) == 39) = false := byte_ne (d := 39) (fun e => hq3 (.inr e))
 replace HT0 := Lib.hid (HT0.out.trans (if_neg hq3))
 clear hq3
 by_cases h64 : c = 64
 · have z64 : ((c.toNat : Int) == 64) = true := byte_eq (d := 64) h64
   have PA : Hid (∀ u, Calls Tryz.prog 116 #[.string (B l), .int .i64 (i : Int)] u fun e w' => TokRef e (tokG l i) /\ Below u.heap.size u w') := Lib.hid (fun u => by rw [HT0.out, if_pos h64]; exact refTag10_l l i u hi hl)
   clear HT0
   go_wp2_with (first | (go_at_call 112; (with_reducible refine (BA.out v _).mono ?_); rintro e w2 ⟨rfl, hb⟩; replace HK := Lib.hid (HK.out.below hb); replace HB0 := Lib.hid (HB0.out.trans (hb.mono HB0.out.size)); clear a0 a1 a2 a3 a4 a5 p0 p1 p2 p3 p4 p5 d0 d1 e0 e1 hlt hlt0 hb; obtain ⟨a0, a1, a2, a3, a4, a5, p0, p1, p2, p3, p4, p5, d0, d1, e0, e1, hlt⟩ := HK.out; have hlt0 := Nat.lt_of_succ_lt hlt) | (go_at_call 116; (with_reducible refine (PA.out _).mono ?_); rintro e w3 ⟨ht, hb⟩; obtain ⟨k, x, y, z, a, f, p, n, rfl⟩ := tokRef_any ht; have HT := Lib.hid ht; clear ht; replace HK := Lib.hid (HK.out.below hb); replace HB0 := Lib.hid (HB0.out.trans (hb.mono HB0.out.size)); clear a0 a1 a2 a3 a4 a5 p0 p1 p2 p3 p4 p5 d0 d1 e0 e1 hlt hlt0 hb; obtain ⟨a0, a1, a2, a3, a4, a5, p0, p1, p2, p3, p4, p5, d0, d1, e0, e1, hlt⟩ := HK.out; have hlt0 := Nat.lt_of_succ_lt hlt; unfold tokV))
   exact tokr_done (V := w3) rfl HK.out HB0.out rfl rfl HT.out
 have z64 : ((c.toNat : Int) == 64) = false := byte_ne (d := 64) h64
 replace HT0 := Lib.hid (HT0.out.trans (if_neg h64))
 clear h64
 by_cases hiN : i < N
 · have g1 : decide ((i : Int) < (N : Int)) = true := decide_eq_true (by omega)
   have hNl := HNL.out hiN
   obtain ⟨t, ht⟩ : ∃ t, cutF l i N = t := ⟨_, rfl⟩
   have hcut2 : List.take (N - i) (List.drop i l) = t := ht
   have m1 : (i : Int) <= (N : Int) := by omega
   have m2 : (N : Int) <= (l.length : Int) := by omega
   have HI : Hid (tokG l i = .inl ⟨6, t, [], xsdW ++ T, (i : Nat), (N : Nat)⟩) := Lib.hid (by rw [HT0.out, if_pos hiN, ht])
   clear HT0 ht
   go_wp2_with (first | (go_at_call 112; (with_reducible refine (BA.out v _).mono ?_); rintro e w2 ⟨rfl, hb⟩; replace HK := Lib.hid (HK.out.below hb); replace HB0 := Lib.hid (HB0.out.trans (hb.mono HB0.out.size)); clear a0 a1 a2 a3 a4 a5 p0 p1 p2 p3 p4 p5 d0 d1 e0 e1 hlt hlt0 hb; obtain ⟨a0, a1, a2, a3, a4, a5, p0, p1, p2, p3, p4, p5, d0, d1, e0, e1, hlt⟩ := HK.out; have hlt0 := Nat.lt_of_succ_lt hlt))
   exact tokr_done rfl HK.out HB0.out rfl rfl (by rw [HI.out]; exact tokRef_of (t := ⟨6, t, [], xsdW ++ T, (i : Nat), (N : Nat)⟩) rfl rfl (B_append xsdW T) rfl rfl)
 have g1 : decide ((i : Int) < (N : Int)) = false := decide_eq_false (by omega)
 have g2 : decide (i < N) = false := decide_eq_false hiN
 have g3 : N <= i := by omega
 replace HT0 := Lib.hid (HT0.out.trans (if_neg hiN))
 clear hiN HNL
 have W1 : IntKind.i64.wrap ((i : Int) + 1) = (i : Int) + 1 := IntWalk.i64_in _ (by omega)
 have W2 : IntKind.i64.wrap ((i : Int) + 2) = (i : Int) + 2 := IntWalk.i64_in _ (by omega)
 by_cases h94 : c = 94 /\ i + 1 < l.length /\ l.getD (i + 1) 0 = 94
 · have z94 : ((c.toNat : Int) == 94) = true := byte_eq (d := 94) h94.1
   have l1 : decide ((i : Int) + 1 < (l.length : Int)) = true := decide_eq_true (by omega)
   have l2 : i + 1 < l.length := h94.2.1
   have l3 : (i : Int) + 1 < (l.length : Int) := by omega
   have hx : l[i + 1] = 94 := by have := h94.2.2; simpa [List.getD, l2] using this
   have HI : Hid (tokG l i = .inl ⟨8, [94, 94], [], [], (i : Nat), (i + 2 : Nat)⟩) := Lib.hid (by rw [HT0.out, if_pos h94])
   have y94 : (((l[i + 1]'l2).toNat : Int) == 94) = true := byte_eq (d := 94) hx
   clear HT0 h94 hx
   go_wp2_with (first | (go_at_call 112; (with_reducible refine (BA.out v _).mono ?_); rintro e w2 ⟨rfl, hb⟩; replace HK := Lib.hid (HK.out.below hb); replace HB0 := Lib.hid (HB0.out.trans (hb.mono HB0.out.size)); clear a0 a1 a2 a3 a4 a5 p0 p1 p2 p3 p4 p5 d0 d1 e0 e1 hlt hlt0 hb; obtain ⟨a0, a1, a2, a3, a4, a5, p0, p1, p2, p3, p4, p5, d0, d1, e0, e1, hlt⟩ := HK.out; have hlt0 := Nat.lt_of_succ_lt hlt))
   exact tokr_done rfl HK.out HB0.out rfl rfl (by rw [HI.out]; exact tokRef_of (t := ⟨8, [94, 94], [], [], (i : Nat), (i + 2 : Nat)⟩) rfl rfl rfl rfl (by simp only; omega))
 replace HT0 := Lib.hid (HT0.out.trans (if_neg h94))
 have R : ((c.toNat : Int) == 94) = false \/ (((c.toNat : Int) == 94) = true /\ decide ((i : Int) + 1 < (l.length : Int)) = false) \/ (((c.toNat : Int) == 94) = true /\ decide ((i : Int) + 1 < (l.length : Int)) = true /\ (i : Int) + 1 < (l.length : Int) /\ ∃ h2 : i + 1 < l.length, (((l[i + 1]'h2).toNat : Int) == 94) = false) := by
   by_cases h1 : c = 94
   · refine .inr ?_
     by_cases h2 : i + 1 < l.length
     · exact .inr ⟨byte_eq (d := 94) h1, decide_eq_true (by omega), by omega, h2, byte_ne (d := 94) (fun e => h94 ⟨h1, h2, by simp [List.getD, h2, e]⟩)⟩
     · exact .inl ⟨byte_eq (d := 94) h1, decide_eq_false (by omega)⟩
   · exact .inl (byte_ne (d := 94) h1)
 clear h94
 rcases R with z94 | ⟨z94, l1⟩ | ⟨z94, l1, l3, l2, y94⟩ <;> (
   go_wp2_with (first | (go_at_call 112; (with_reducible refine (BA.out v _).mono ?_); rintro e w2 ⟨rfl, hb⟩; replace HK := Lib.hid (HK.out.below hb); replace HB0 := Lib.hid (HB0.out.trans (hb.mono HB0.out.size)); clear a0 a1 a2 a3 a4 a5 p0 p1 p2 p3 p4 p5 d0 d1 e0 e1 hlt hlt0 hb; obtain ⟨a0, a1, a2, a3, a4, a5, p0, p1, p2, p3, p4, p5, d0, d1, e0, e1, hlt⟩ := HK.out; have hlt0 := Nat.lt_of_succ_lt hlt))
   have HK1 := HK
   have HB1 := HB0
   clear HK HB0 a0 a1 a2 a3 a4 a5 p0 p1 p2 p3 p4 p5 d0 d1 e0 e1 hlt hlt0
   go_loopw [11] (fun z wr => ∃ k : Nat, z = .int .i64 (k : Int) /\ k <= 9 /\ Hid (∀ q, q < k -> signsW.getD q 0 ≠ c) /\ Hid (TkAt wr w.heap.size) /\ Hid (Below w.heap.size w wr)) (fun z _ => 9 - (intOf z).toNat)
   case atStart => exact ⟨0, rfl, Nat.zero_le _, Lib.hid (fun q h => by omega), HK1, HB1⟩
   case round =>
     obtain ⟨k, rfl, hk9, HNO, HK, HB0⟩ := hrel
     have k0' : (0 : Int) <= (k : Int) := by omega
     have WK : IntKind.i64.wrap ((k : Int) + 1) = (k : Int) + 1 := IntWalk.i64_in _ (by omega)
     obtain ⟨a0, a1, a2, a3, a4, a5, p0, p1, p2, p3, p4, p5, d0, d1, e0, e1, hlt⟩ := HK.out
     have hlt0 := Nat.lt_of_succ_lt hlt
     by_cases hk : k < 9
     · have t1 : decide ((k : Int) < 9) = true := decide_eq_true (by omega)
       have IX := fun u => sg_at u k hk
       obtain ⟨s, hs⟩ : ∃ s, signsW.getD k 0 = s := ⟨_, rfl⟩
       rw [hs] at IX
       by_cases he : s = c
       · have q1 : ((s.toNat : Int) == (c.toNat : Int)) = true := byte_eq he
         have HI : Hid (tokG l i = .inl ⟨8, [s], [], [], (i : Nat), (i + 1 : Nat)⟩) := Lib.hid (by rw [HT0.out, if_pos (by rw [<- he, <- hs]; exact sg_mem hk), he])
         have HCU := Lib.hid (sg_cut k hk)
         rw [hs] at HCU
         clear HT0 HNO hs he
         go_wp2_with fail
         exact tokr_done rfl HK.out HB0.out rfl rfl (by rw [HI.out]; exact tokRef_of (t := ⟨8, [s], [], [], (i : Nat), (i + 1 : Nat)⟩) HCU.out rfl rfl rfl (by simp only; omega))
       · have q1 : ((s.toNat : Int) == (c.toNat : Int)) = false := byte_ne he
         have HNO2 : Hid (∀ q, q < k + 1 -> signsW.getD q 0 ≠ c) := Lib.hid (fun q hq => by
           by_cases e : q = k
           · rw [e, hs]; exact he
           · exact HNO.out q (by omega))
         clear HNO hs he
         go_wp2_with fail
         go_roundw
         case rel => exact ⟨k + 1, by go_num, by omega, HNO2, HK, HB0⟩
         case measure => simp [intOf]; omega
     · have t1 : decide ((k : Int) < 9) = false := decide_eq_false (by omega)
       have HI : Hid (tokG l i = .inr (i, 100)) := Lib.hid (by rw [HT0.out, if_neg (by rw [sg_all (fun q hq => HNO.out q (by omega))]; simp)])
       clear HT0 HNO
       go_wp2_with fail
       exact tokr_done rfl HK.out HB0.out rfl rfl (by rw [HI.out]; rfl))
end Go.Proofs.YtdhmpakhdhdebaaGreatDoor
namespace Go.Proofs.YtdhmpakhdhdebaaGreatDoor
open Go.RowKit
set_option maxRecDepth 100000
theorem tkBox {w V : World} {k a f p n : Int} {x y z : ByteArray} (h : (w.alloc (.cells #[.int .i64 k, .string x, .string y, .string z, .int .i64 a, .int .i64 f] 50)).alloc (.cells #[.int .i64 p, .int .i64 n] 64) = V) :
   RowAt V w.heap.size [.int .i64 k, .string x, .string y, .string z, .int .i64 a, .int .i64 f] /\ RowAt V (w.heap.size + 1) [.int .i64 p, .int .i64 n] /\ Below w.heap.size w V /\ V.heap.size = w.heap.size + 2 := by
 subst h
 have h0 := heap_alloc_new w (.cells #[.int .i64 k, .string x, .string y, .string z, .int .i64 a, .int .i64 f] 50)
 have h1 := (heap_alloc_old (w.alloc (.cells #[.int .i64 k, .string x, .string y, .string z, .int .i64 a, .int .i64 f] 50)) (.cells #[.int .i64 p, .int .i64 n] 64) (r := w.heap.size) (by simp)).trans h0
 have h2 := heap_alloc_new (w.alloc (.cells #[.int .i64 k, .string x, .string y, .string z, .int .i64 a, .int .i64 f] 50)) (.cells #[.int .i64 p, .int .i64 n] 64)
 rw [show (w.alloc (.cells #[.int .i64 k, .string x, .string y, .string z, .int .i64 a, .int .i64 f] 50)).heap.size = w.heap.size + 1 by simp] at h2
 exact ⟨rowAt_of_heap h1, rowAt_of_heap h2, ((Below.refl _ _).alloc (Nat.le_refl _) _).alloc (by simp) _, by simp⟩
set_option maxHeartbeats 6400000 in
theorem refNext10_l (l : List UInt8) (i : Nat) (w : World) (hi : i <= l.length) (hl : l.length <= 1048576) :
   Calls Tryz.prog 46 #[.string (B l), .int .i64 (i : Int)] w fun e w' => TokRef e (nextG l i) /\ Below w.heap.size w w' := by
 obtain ⟨W, hW⟩ : ∃ W, (w.alloc (.cells #[.int .i64 0, .string ⟨#[]⟩, .string ⟨#[]⟩, .string ⟨#[]⟩, .int .i64 0, .int .i64 0] 50)).alloc (.cells #[.int .i64 0, .int .i64 0] 64) = W := ⟨_, rfl⟩
 have HB0 : Hid (Below w.heap.size w W) := Lib.hid (by rw [<- hW]; exact ((Below.refl _ _).alloc (Nat.le_refl _) _).alloc (by simp) _)
 have HK : Hid (TkAt W w.heap.size) := Lib.hid (by rw [<- hW]; exact tkr_new w)
 have k0 : (0 : Int) <= (i : Int) := by omega
 have k1 : (i : Int) <= (l.length : Int) := by omega
 obtain ⟨a0, a1, a2, a3, a4, a5, p0, p1, p2, p3, p4, p5, d0, d1, e0, e1, hlt⟩ := HK.out
 have hlt0 := Nat.lt_of_succ_lt hlt
 obtain ⟨g, hg⟩ : ∃ g, gapF l i = g := ⟨_, rfl⟩
 have BL := Lib.hid (fun (u : World) => hg ▸ refBlank_l l i u hi (by omega))
 have hgb := gap_le hi
 rw [hg] at hgb
 by_cases he : g = l.length
 · have e9 : ((g : Int) == (l.length : Int)) = true := beq_iff_eq.2 (by omega)
   have HI : Hid (nextG l i = .inl ⟨0, [], [], [], (g : Nat), (g : Nat)⟩) := Lib.hid (by unfold nextG; rw [hg, if_pos he])
   clear hg he
   go_enter Tryz.func46, Tryz.ntmps46
   go_upto_block 0 with fail
   go_wp2_with (first | (go_at_call 75; (with_reducible refine (BL.out _).mono ?_); rintro e w1 ⟨rfl, rfl⟩))
   exact tokr_done (V := w1) rfl HK.out HB0.out rfl rfl (by rw [HI.out]; exact tokRef_of (t := ⟨0, [], [], [], (g : Nat), (g : Nat)⟩) rfl rfl rfl rfl rfl)
 have e9 : ((g : Int) == (l.length : Int)) = false := beq_eq_false_iff_ne.2 (by omega)
 have hgl : g < l.length := by omega
 have T0 := fun (u : World) => refToken10_l l g u hgl hl
 have hat := tok_at hgl
 obtain ⟨r, hr⟩ : ∃ r, tokG l g = r := ⟨_, rfl⟩
 rw [hr] at hat
 rw [hr] at T0
 have HI1 : Hid (∀ t, r = .inl t -> nextG l i = if 65536 < t.text.length \/ 65536 < t.loc.length then .inr (g, 2) else .inl t) := Lib.hid (fun t h => by unfold nextG; rw [hg, if_neg he, hr, h])
 have HI2 : Hid (∀ f, r = .inr f -> nextG l i = .inr f) := Lib.hid (fun t h => by unfold nextG; rw [hg, if_neg he, hr, h])
 clear hg he hr
 rcases r with t | ⟨p, n⟩
 · obtain ⟨tk, tx, tl, ty, ta, tf⟩ := t
   have TK : Hid (∀ u, Calls Tryz.prog 76 #[.string (B l), .int .i64 (g : Int)] u fun e w' => e = .returned (.tuple #[tokV tk (B tx) (B tl) (B ty) ta tf, .agg #[.int .i64 0, .int .i64 0]]) /\ Below u.heap.size u w') := Lib.hid T0
   have HI0 := Lib.hid (HI1.out _ rfl)
   clear T0 hat HI1 HI2
   go_enter Tryz.func46, Tryz.ntmps46
   go_upto_block 0 with fail
   go_upto_region 5 with (first | (go_at_call 75; (with_reducible refine (BL.out _).mono ?_); rintro e w1 ⟨rfl, rfl⟩) | (go_at_call 76; (with_reducible refine (TK.out _).mono ?_); rintro e w3 ⟨rfl, hb⟩; replace HK := Lib.hid (HK.out.below hb); replace HB0 := Lib.hid (HB0.out.trans (hb.mono HB0.out.size)); clear a0 a1 a2 a3 a4 a5 p0 p1 p2 p3 p4 p5 d0 d1 e0 e1 hlt hlt0 hb; obtain ⟨a0, a1, a2, a3, a4, a5, p0, p1, p2, p3, p4, p5, d0, d1, e0, e1, hlt⟩ := HK.out; have hlt0 := Nat.lt_of_succ_lt hlt; unfold tokV))
   obtain ⟨V, hV⟩ : ∃ V, (w3.alloc (.cells #[.int .i64 tk, .string (B tx), .string (B tl), .string (B ty), .int .i64 ta, .int .i64 tf] 50)).alloc (.cells #[.int .i64 0, .int .i64 0] 64) = V := ⟨_, rfl⟩
   rw [hV]
   obtain ⟨T6, T2, hb, hs⟩ := tkBox hV
   obtain ⟨⟨b0, b1, b2, b3, b4, b5⟩, _, _, _, _, _, _⟩ := row6 T6
   have t0 := T2.cell (j := 0) (by simp)
   have t1 := T2.cell (j := 1) (by simp)
   simp only [List.getElem_cons_zero, List.getElem_cons_succ] at t0 t1
   have s1 : ¬ w3.heap.size = w.heap.size := by omega
   have s2 : ¬ w3.heap.size = w.heap.size + 1 := by omega
   have s3 : ¬ w3.heap.size + 1 = w.heap.size := by omega
   have s4 : ¬ w3.heap.size + 1 = w.heap.size + 1 := by omega
   clear hV T6 T2 hs
   replace HK := Lib.hid (HK.out.below hb)
   replace HB0 := Lib.hid (HB0.out.trans (hb.mono HB0.out.size))
   clear a0 a1 a2 a3 a4 a5 p0 p1 p2 p3 p4 p5 d0 d1 e0 e1 hlt hlt0 hb
   obtain ⟨a0, a1, a2, a3, a4, a5, p0, p1, p2, p3, p4, p5, d0, d1, e0, e1, hlt⟩ := HK.out
   have hlt0 := Nat.lt_of_succ_lt hlt
   by_cases h1 : 65536 < tx.length
   · have g1 : decide ((65536 : Int) < (tx.length : Int)) = true := decide_eq_true (by omega)
     have HI : Hid (nextG l i = .inr (g, 2)) := Lib.hid (HI0.out.trans (if_pos (.inl h1)))
     clear HI0
     go_wp2_with fail
     exact tokr_done (V := V) rfl HK.out HB0.out rfl rfl (by rw [HI.out]; rfl)
   have g1 : decide ((65536 : Int) < (tx.length : Int)) = false := decide_eq_false (by omega)
   have g2 : decide (65536 < tx.length) = false := decide_eq_false h1
   by_cases h2 : 65536 < tl.length
   · have g3 : decide ((65536 : Int) < (tl.length : Int)) = true := decide_eq_true (by omega)
     have HI : Hid (nextG l i = .inr (g, 2)) := Lib.hid (HI0.out.trans (if_pos (.inr h2)))
     clear HI0
     go_wp2_with fail
     exact tokr_done (V := V) rfl HK.out HB0.out rfl rfl (by rw [HI.out]; rfl)
   have g3 : decide ((65536 : Int) < (tl.length : Int)) = false := decide_eq_false (by omega)
   have g4 : decide (65536 < tl.length) = false := decide_eq_false h2
   have HI : Hid (nextG l i = .inl ⟨tk, tx, tl, ty, ta, tf⟩) := Lib.hid (HI0.out.trans (if_neg (by rintro (h | h); exact h1 h; exact h2 h)))
   clear HI0 h1 h2
   go_upto_region 7 with fail
   go_region
   all_goals (go_wp2_with fail)
   all_goals exact tokr_done_d (V := V) rfl HK.out HB0.out rfl rfl (by rw [HI.out]; rfl)
 · have TK : Hid (∀ u, Calls Tryz.prog 76 #[.string (B l), .int .i64 (g : Int)] u fun e w' => e = .returned (.tuple #[tokV 0 ⟨#[]⟩ ⟨#[]⟩ ⟨#[]⟩ 0 0, .agg #[.int .i64 (p : Int), .int .i64 n]]) /\ Below u.heap.size u w') := Lib.hid T0
   have HI : Hid (nextG l i = .inr (p, n)) := Lib.hid (HI2.out _ rfl)
   have n0 : (n == 0) = false := beq_eq_false_iff_ne.2 (by have := hat.2.2; omega)
   clear T0 hat HI1 HI2
   go_enter Tryz.func46, Tryz.ntmps46
   go_upto_block 0 with fail
   go_upto_region 5 with (first | (go_at_call 75; (with_reducible refine (BL.out _).mono ?_); rintro e w1 ⟨rfl, rfl⟩) | (go_at_call 76; (with_reducible refine (TK.out _).mono ?_); rintro e w3 ⟨rfl, hb⟩; replace HK := Lib.hid (HK.out.below hb); replace HB0 := Lib.hid (HB0.out.trans (hb.mono HB0.out.size)); clear a0 a1 a2 a3 a4 a5 p0 p1 p2 p3 p4 p5 d0 d1 e0 e1 hlt hlt0 hb; obtain ⟨a0, a1, a2, a3, a4, a5, p0, p1, p2, p3, p4, p5, d0, d1, e0, e1, hlt⟩ := HK.out; have hlt0 := Nat.lt_of_succ_lt hlt; unfold tokV))
   obtain ⟨V, hV⟩ : ∃ V, (w3.alloc (.cells #[.int .i64 0, .string ⟨#[]⟩, .string ⟨#[]⟩, .string ⟨#[]⟩, .int .i64 0, .int .i64 0] 50)).alloc (.cells #[.int .i64 (p : Int), .int .i64 n] 64) = V := ⟨_, rfl⟩
   rw [hV]
   obtain ⟨T6, T2, hb, hs⟩ := tkBox hV
   obtain ⟨⟨b0, b1, b2, b3, b4, b5⟩, _, _, _, _, _, _⟩ := row6 T6
   have t0 := T2.cell (j := 0) (by simp)
   have t1 := T2.cell (j := 1) (by simp)
   simp only [List.getElem_cons_zero, List.getElem_cons_succ] at t0 t1
   have s1 : ¬ w3.heap.size = w.heap.size := by omega
   have s2 : ¬ w3.heap.size = w.heap.size + 1 := by omega
   have s3 : ¬ w3.heap.size + 1 = w.heap.size := by omega
   have s4 : ¬ w3.heap.size + 1 = w.heap.size + 1 := by omega
   clear hV T6 T2 hs
   replace HK := Lib.hid (HK.out.below hb)
   replace HB0 := Lib.hid (HB0.out.trans (hb.mono HB0.out.size))
   clear a0 a1 a2 a3 a4 a5 p0 p1 p2 p3 p4 p5 d0 d1 e0 e1 hlt hlt0 hb
   obtain ⟨a0, a1, a2, a3, a4, a5, p0, p1, p2, p3, p4, p5, d0, d1, e0, e1, hlt⟩ := HK.out
   have hlt0 := Nat.lt_of_succ_lt hlt
   go_upto_region 7 with fail
   go_region
   all_goals (go_wp2_with fail)
   all_goals exact tokr_done_d (V := V) rfl HK.out HB0.out rfl rfl (by rw [HI.out]; rfl)
end Go.Proofs.YtdhmpakhdhdebaaGreatDoor
