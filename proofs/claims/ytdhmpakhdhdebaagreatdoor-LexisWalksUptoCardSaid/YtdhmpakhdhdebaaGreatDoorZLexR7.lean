/-
  tesseraref10.great, tesseraref06.PieceAt and May: contracts; what the reference's piece says of the program's. By an AI agent.
-/
import Derived.Test.YtdhmpakhdhdebaaGreatDoorZLexR5
import Derived.Test.YtdhmpakhdhdebaaGreatDoorZLexW12
namespace Go.Proofs.YtdhmpakhdhdebaaGreatDoor
open Go.Lib (hid)
open Go.RowKit
set_option maxRecDepth 100000
set_option maxHeartbeats 400000 in
theorem great_any (s : ByteArray) (w : World) (hs : s.size <= maxLen) :
  Calls Tryz.prog 83 #[.string s] w fun e w' => e = .returned (.string (B (uppL s.data.toList))) /\ Below w.heap.size w w' := by
 unfold maxLen at hs
 have hconv := run_bytes_of_string (P := Tryz.prog) w 9 35 5 s Tryz.underlying9 Tryz.underlying35 Tryz.underlying5
 obtain ⟨cap, hcap⟩ : ∃ cap, grownCap w s.size 0 5 = cap := ⟨_, rfl⟩
 rw [hcap] at hconv
 clear hcap
 have hrow := rowAt_bytes w s cap 5
 obtain ⟨C, hC⟩ : ∃ C, bytesRow s cap = C := ⟨_, rfl⟩
 rw [hC] at hconv hrow
 clear hC
 go_enter Tryz.func83, Tryz.ntmps83
 go_wp2
 go_loopw [4] (fun i wr => ∃ k : Nat, k <= s.size /\ i = .int .i64 k /\ Below w.heap.size w wr /\ RowAt wr w.heap.size ((uppTo k s.data.toList).map U8)) (fun i _ => s.size - (intOf i).toNat)
 case atStart => exact ⟨0, Nat.zero_le _, rfl, ((Below.refl _ _).alloc (Nat.le_refl _) _).drew, by rw [uppTo_zero]; exact hrow⟩
 case round =>
  obtain ⟨k, hk, rfl, hb, hr⟩ := hrel
  by_cases hlt : k < s.size
  ·have hl : k < s.data.toList.length := by simpa using hlt
   have hlm : k < ((uppTo k s.data.toList).map U8).length := by rw [List.length_map, uppTo_length]; exact hl
   have hcell := hr.cell hlm
   have hfree := hr.free hlm
   rw [u8_map _ _ (by rw [uppTo_length]; exact hl), uppTo_at _ _ hl] at hcell
   have HS : Hid ((uppTo k s.data.toList).set k (uppB s.data.toList[k]) = uppTo (k + 1) s.data.toList) := uppTo_set _ _ hl
   obtain ⟨c, hc⟩ : ∃ c, s.data.toList[k] = c := ⟨_, rfl⟩
   rw [hc] at hcell HS
   have HC := hid hc
   clear hc
   go_wp2
   ·refine ⟨⟨k + 1, by omega, by go_num, hb.setCell (Nat.le_refl _) _, upp_store hr hl HS.out ‹_› ‹_›⟩, by simp [intOf]; omega⟩
   ·refine ⟨⟨k + 1, by omega, by go_num, hb, upp_keep hr hl HC.out (.inr (by omega))⟩, by simp [intOf]; omega⟩
   ·refine ⟨⟨k + 1, by omega, by go_num, hb, upp_keep hr hl HC.out (.inl (by omega))⟩, by simp [intOf]; omega⟩
  ·obtain rfl : k = s.size := by omega
   have hall : uppTo s.size s.data.toList = uppL s.data.toList := uppTo_all s.data.toList
   rw [hall] at hr
   clear hall
   have hback := back_of_row (P := Tryz.prog) wr 35 9 5 w.heap.size cap s.size (uppL s.data.toList) (by simp [uppL]) Tryz.underlying35 Tryz.underlying5 Tryz.underlying9 hr
   go_wp2
   go_ret
   exact ⟨rfl, hb⟩
theorem great_l (l : List UInt8) (w : World) (hs : l.length <= maxLen) :
  Calls Tryz.prog 83 #[.string (B l)] w fun e w' => e = .returned (.string (B (greatL l))) /\ Below w.heap.size w w' := by
 have h := great_any (B l) w (by rw [B_size]; exact hs)
 rw [B_toList] at h
 exact h
theorem refMay_l (r : Int) (f l : Bool) (w : World) : Calls Tryz.prog 210 #[.int .i64 r, .bool f, .bool l] w fun e w' => e = .returned (.bool (standsB r f l)) /\ Below w.heap.size w w' := by
 have MA := hid may_any
 go_enter Tryz.func210, Tryz.ntmps210
 go_wp2_with (go_at_call 128; refine (MA.out r f l _).mono ?_; rintro e w1 ⟨rfl, hb⟩)
 go_ret
 exact ⟨rfl, hb⟩
theorem piece_new (w w3 : World) (h : Below (w.alloc (.cells #[.int .i64 0, .int .i64 0, .string ⟨#[]⟩, .int .i64 0] 253)).heap.size (w.alloc (.cells #[.int .i64 0, .int .i64 0, .string ⟨#[]⟩, .int .i64 0] 253)) w3) :
  Below w.heap.size w w3 /\ RowAt w3 w.heap.size [.int .i64 0, .int .i64 0, .string ⟨#[]⟩, .int .i64 0] :=
 ⟨((Below.refl w.heap.size w).alloc (Nat.le_refl _) _).trans (h.mono (by simp)), RowAt.below (rowAt_of_heap (heap_alloc_new w (.cells #[.int .i64 0, .int .i64 0, .string ⟨#[]⟩, .int .i64 0] 253))) h (by simp)⟩
theorem piece_cells {W : World} {g : Nat} {a b c d : Value} (h : RowAt W g [a, b, c, d]) (x y z u : Value) :
  (((((W.setCell ⟨g, 0, none⟩ x).setCell ⟨g, 1, none⟩ y).setCell ⟨g, 2, none⟩ z).setCell ⟨g, 3, none⟩ u).cell? ⟨g, 0, none⟩ = some x /\ ((((W.setCell ⟨g, 0, none⟩ x).setCell ⟨g, 1, none⟩ y).setCell ⟨g, 2, none⟩ z).setCell ⟨g, 3, none⟩ u).cell? ⟨g, 1, none⟩ = some y /\ ((((W.setCell ⟨g, 0, none⟩ x).setCell ⟨g, 1, none⟩ y).setCell ⟨g, 2, none⟩ z).setCell ⟨g, 3, none⟩ u).cell? ⟨g, 2, none⟩ = some z /\ ((((W.setCell ⟨g, 0, none⟩ x).setCell ⟨g, 1, none⟩ y).setCell ⟨g, 2, none⟩ z).setCell ⟨g, 3, none⟩ u).cell? ⟨g, 3, none⟩ = some u) :=
 have h := (((h.set (j := 0) (by simp) x).set (j := 1) (by simp) y).set (j := 2) (by simp) z).set (j := 3) (by simp) u
 ⟨h.cell (j := 0) (by simp), h.cell (j := 1) (by simp), h.cell (j := 2) (by simp), h.cell (j := 3) (by simp)⟩
theorem refPieceAt_l (l : List UInt8) (j : Nat) (w : World) (hl : l.length <= 140737488351232) (hj : j < l.length) :
  Calls Tryz.prog 209 #[.string (B l), .int .i64 (j : Int)] w fun e w' => e = .returned (refPieceV j (refPieceF l j)) /\ Below w.heap.size w w' := by
 obtain ⟨t, n, r, hp⟩ : ∃ t n r, refPieceF l j = (t, n, r) := ⟨_, _, _, rfl⟩
 have PI := hid (fun (w : World) => hp ▸ refPiece_l l j w hl hj)
 rw [hp]
 clear hp
 have PN := hid (piece_new w)
 go_enter Tryz.func209, Tryz.ntmps209
 go_wp2_with (go_at_call 234; refine (PI.out _).mono ?_; rintro e w1 ⟨rfl, hb⟩; obtain ⟨hb2, HR⟩ := PN.out _ hb; have HR2 := hid HR; obtain ⟨c0, c1, c2, c3, f0, f1, f2, f3⟩ := HR.four; clear hb HR; unfold refPieceV)
 obtain ⟨q0, q1, q2, q3⟩ := piece_cells HR2.out (.int .i64 (j : Int)) (.int .i64 (n : Int)) (.string (B t)) (.int .i64 r)
 refine bodyPost_ret (v := .agg #[.int .i64 (j : Int), .int .i64 (n : Int), .string (B t), .int .i64 r]) (by simp [results, Tryz.results209, go_sem, q0, q1, q2, q3]) rfl ?_
 exact ⟨rfl, ((((hb2.setCell (Nat.le_refl _) _).setCell (Nat.le_refl _) _).setCell (Nat.le_refl _) _).setCell (Nat.le_refl _) _)⟩
theorem refPiece_may {l : List UInt8} {j n : Nat} {t : List UInt8} {r : Int} (h : refPieceF l j = (t, n, r)) (f : Bool) :
  (n = 0 \/ (0 <= r /\ standsB r f false = false) -> mayP (pieceF l j) f = false) /\ (n ≠ 0 -> (r < 0 \/ standsB r f false = true) -> mayP (pieceF l j) f = true /\ pieceF l j = (t, n, r) /\ (r < 0 -> r = -1)) := by
 unfold refPieceF at h
 unfold pieceF
 split at h
 ·rename_i hp
  rw [if_pos hp]
  cases h
  exact ⟨fun h => by omega, fun _ _ => ⟨rfl, rfl, fun _ => rfl⟩⟩
 ·rename_i hp
  rw [if_neg hp]
  split at h
  ·rename_i he
   rw [if_pos he]
   cases h
   exact ⟨fun h => by omega, fun _ _ => ⟨rfl, rfl, fun _ => rfl⟩⟩
  ·rename_i he
   rw [if_neg he]
   obtain ⟨v, m, hq⟩ : ∃ v m, nextAt l (j : Int) = (v, m) := ⟨_, _, rfl⟩
   rw [hq] at h ⊢
   simp only at h ⊢
   split at h
   ·rename_i hz
    cases h
    refine ⟨fun _ => ?_, fun h => absurd rfl h⟩
    split
    ·rfl
    ·rename_i hm
     rw [if_pos (hz.resolve_left hm)]
     rfl
   ·rename_i hz
    rw [if_neg (fun x => hz (.inl x)), if_neg (fun x => hz (.inr x))]
    cases h
    have hm : n ≠ 0 := fun x => hz (.inl x)
    have h0 : 0 <= r := (nextAt_bound hq hm).2.2.1
    unfold mayP
    refine ⟨fun h => ?_, fun _ h => ⟨?_, rfl, fun x => by omega⟩⟩
    ·rw [(h.resolve_left hm).2]
     simp
     omega
    ·rw [h.resolve_left (by omega), decide_eq_true h0]
     simp [hm]
end Go.Proofs.YtdhmpakhdhdebaaGreatDoor
namespace Go.Proofs.YtdhmpakhdhdebaaGreatDoor
open Go.Lib (hid)
open Go.RowKit
set_option maxRecDepth 100000
theorem low_great (c : UInt8) : lowB (greatC c) = lowB c := by
 apply UInt8.toNat_inj.1
 unfold greatC lowB
 by_cases h : 97 <= c.toNat /\ c.toNat <= 122
 ·rw [if_pos h, if_pos (by rw [UInt8.toNat_sub]; simp; omega), if_neg (show ¬ (65 <= c.toNat /\ c.toNat <= 90) by omega)]
  rw [UInt8.toNat_add, UInt8.toNat_sub]
  simp
  omega
 ·rw [if_neg h]
theorem low_of_great {t g : List UInt8} (h : greatL t = g) : lowL t = lowL g := by
 rw [<- h]
 unfold greatL lowL
 rw [List.map_map]
 exact List.map_congr_left (fun c _ => (low_great c).symm)
theorem wordG_great {l : List UInt8} {i m : Nat} {t : List UInt8} (hm : wordE l false i = m) (ht : cutF l i m = t) :
  wordG l i = if greatL t = [80, 82, 69, 70, 73, 88] \/ greatL t = [66, 65, 83, 69] \/ greatL t = [71, 82, 65, 80, 72] then .inl ⟨7, greatL t, [], [], (i : Nat), (m : Nat)⟩ else if t = [97] \/ t = [116, 114, 117, 101] \/ t = [102, 97, 108, 115, 101] then .inl ⟨7, t, [], [], (i : Nat), (m : Nat)⟩ else .inr (i, 100) := by
 unfold wordG
 rw [hm, ht]
 have h : (lowL t = prefixW \/ lowL t = baseW \/ lowL t = graphW) = (greatL t = [80, 82, 69, 70, 73, 88] \/ greatL t = [66, 65, 83, 69] \/ greatL t = [71, 82, 65, 80, 72]) := propext ⟨
  fun h => by rcases h with h | h | h; exact .inl (great_of_low h); exact .inr (.inl (great_of_low h)); exact .inr (.inr (great_of_low h)),
  fun h => by rcases h with h | h | h; exact .inl (low_of_great h); exact .inr (.inl (low_of_great h)); exact .inr (.inr (low_of_great h))⟩
 simp only [h]
set_option maxHeartbeats 3200000 in
theorem refWord10_l (l : List UInt8) (i : Nat) (w : World) (hi : i <= l.length) (hl : l.length <= 1048576) :
  Calls Tryz.prog 163 #[.string (B l), .int .i64 (i : Int)] w fun e w' => TokRef e (wordG l i) /\ Below w.heap.size w w' := by
 obtain ⟨W, hW⟩ : ∃ W, (w.alloc (.cells #[.int .i64 0, .string ⟨#[]⟩, .string ⟨#[]⟩, .string ⟨#[]⟩, .int .i64 0, .int .i64 0] 50)).alloc (.cells #[.int .i64 0, .int .i64 0] 64) = W := ⟨_, rfl⟩
 have HB0 : Hid (Below w.heap.size w W) := hid (by rw [<- hW]; exact ((Below.refl _ _).alloc (Nat.le_refl _) _).alloc (by simp) _)
 have HK : Hid (TkAt W w.heap.size) := hid (by rw [<- hW]; exact tkr_new w)
 have k0 : (0 : Int) <= (i : Int) := by omega
 have k1 : (i : Int) <= (l.length : Int) := by omega
 obtain ⟨a0, a1, a2, a3, a4, a5, p0, p1, p2, p3, p4, p5, d0, d1, e0, e1, hlt⟩ := HK.out
 have hlt0 := Nat.lt_of_succ_lt hlt
 have NEXT := hid (fun (j : Nat) (hj : j < l.length) (v : Int) (n : Nat) (h : nextAt l (j : Int) = (v, n)) (u : World) => h ▸ refNext_l l j u (by omega) (by omega))
 have FOL := hid refFollow_any
 have GR := hid (fun (s : List UInt8) (hs : s.length <= 1048576) (u : World) => great_l s u (by unfold maxLen; omega))
 obtain ⟨m, hm⟩ : ∃ m, wordE l false i = m := ⟨_, rfl⟩
 have hmb := wordE_bound l false l.length i (by omega) hi
 rw [hm] at hmb
 have HM := hid hm
 clear hm
 go_enter Tryz.func163, Tryz.ntmps163
 go_upto_block 0 with fail
 go_cut [6] from 12 to 31 (fun x6 wx => x6 = .int .i64 (m : Int) /\ Hid (TkAt wx w.heap.size) /\ Hid (Below w.heap.size w wx))
 case first =>
  go_wp2_with fail
  go_loopw [6] (fun z wr => ∃ j : Nat, z = .int .i64 (j : Int) /\ i <= j /\ j <= l.length /\ Hid (wordE l false j = m) /\ Hid (TkAt wr w.heap.size) /\ Hid (Below w.heap.size w wr)) (fun z _ => l.length - (intOf z).toNat)
  case atStart => exact ⟨i, rfl, Nat.le_refl _, hi, HM, HK, HB0⟩
  case round =>
   obtain ⟨j, rfl, hij, hj, HE, HK1, HB1⟩ := hrel
   clear HK HB0 a0 a1 a2 a3 a4 a5 p0 p1 p2 p3 p4 p5 d0 d1 e0 e1 hlt hlt0
   have j0 : (0 : Int) <= (j : Int) := by omega
   by_cases hjl : j < l.length
   ·have c1 : decide ((j : Int) < (l.length : Int)) = true := decide_eq_true (by omega)
    have c2 : decide (j < l.length) = true := decide_eq_true hjl
    obtain ⟨v, n, hq⟩ : ∃ v n, nextAt l (j : Int) = (v, n) := ⟨_, _, rfl⟩
    have N2 := hid (NEXT.out j hjl v n hq)
    by_cases hn : n = 0
    ·have HX : Hid (j = m) := hid (by rw [<- HE.out, wordE_stop hq (.inl hn)])
     have m0 : ((n : Int) == 0) = true := by rw [hn]; rfl
     clear hq hn HE NEXT GR
     go_wp2_with (first | (go_at_call 64; (with_reducible refine (N2.out _).mono ?_); rintro e w1 ⟨rfl, hb⟩; replace HK1 := hid (HK1.out.below hb); replace HB1 := hid (HB1.out.trans (hb.mono HB1.out.size)); clear hb; unfold pairI))
     go_meet
     exact ⟨by rw [HX.out], HK1, HB1⟩
    have m0 : ((n : Int) == 0) = false := beq_eq_false_iff_ne.2 (by omega)
    have hb2 := nextAt_bound hq hn
    cases hf : followB v with
    | false =>
     have HX : Hid (j = m) := hid (by rw [<- HE.out, wordE_stop hq (.inr ⟨hf, fun x => by cases x.1⟩)])
     clear hq hn HE NEXT GR hb2
     go_wp2_with (first | (go_at_call 64; (with_reducible refine (N2.out _).mono ?_); rintro e w1 ⟨rfl, hb⟩; replace HK1 := hid (HK1.out.below hb); replace HB1 := hid (HB1.out.trans (hb.mono HB1.out.size)); clear hb; unfold pairI) | (go_at_call 184; (with_reducible refine (FOL.out v _).mono ?_); rintro e w2 ⟨rfl, hb⟩; replace HK1 := hid (HK1.out.below hb); replace HB1 := hid (HB1.out.trans (hb.mono HB1.out.size)); clear hb))
     go_meet
     exact ⟨by rw [HX.out], HK1, HB1⟩
    | true =>
     have HX : Hid (wordE l false (j + n) = m) := hid (by rw [<- HE.out, wordE_go hq (fun x => by rcases x with x | x; exact hn x; rw [hf] at x; cases x.1)])
     have W1 : IntKind.i64.wrap ((j : Int) + (n : Int)) = (j : Int) + (n : Int) := IntWalk.i64_in _ (by omega)
     have hjn : j + n <= l.length := by omega
     have hnp : 0 < n := by omega
     clear hq hn HE NEXT GR hb2
     go_wp2_with (first | (go_at_call 64; (with_reducible refine (N2.out _).mono ?_); rintro e w1 ⟨rfl, hb⟩; replace HK1 := hid (HK1.out.below hb); replace HB1 := hid (HB1.out.trans (hb.mono HB1.out.size)); clear hb; unfold pairI) | (go_at_call 184; (with_reducible refine (FOL.out v _).mono ?_); rintro e w2 ⟨rfl, hb⟩; replace HK1 := hid (HK1.out.below hb); replace HB1 := hid (HB1.out.trans (hb.mono HB1.out.size)); clear hb))
     go_roundw
     case rel => exact ⟨j + n, by go_num, by omega, hjn, HX, HK1, HB1⟩
     case measure => simp [intOf]; omega
   ·have c1 : decide ((j : Int) < (l.length : Int)) = false := decide_eq_false (by omega)
    have c2 : decide (j < l.length) = false := decide_eq_false hjl
    have HX : Hid (j = m) := hid (by rw [<- HE.out, wordE_stop (nextAt_out (.inr (by omega))) (.inl rfl)])
    clear HE NEXT GR
    go_wp2_with fail
    go_meet
    exact ⟨by rw [HX.out], HK1, HB1⟩
 case rest =>
  obtain ⟨rfl, HK1, HB1⟩ := hcut
  clear HK HB0 a0 a1 a2 a3 a4 a5 p0 p1 p2 p3 p4 p5 d0 d1 e0 e1 hlt hlt0
  have HK := HK1
  have HB0 := HB1
  clear HK1 HB1 NEXT FOL
  obtain ⟨a0, a1, a2, a3, a4, a5, p0, p1, p2, p3, p4, p5, d0, d1, e0, e1, hlt⟩ := HK.out
  have hlt0 := Nat.lt_of_succ_lt hlt
  obtain ⟨t, ht⟩ : ∃ t, cutF l i m = t := ⟨_, rfl⟩
  have hcut2 : List.take (m - i) (List.drop i l) = t := ht
  have htl : t.length <= 1048576 := by rw [<- ht]; have := cutF_len l i m; omega
  have HA := hid (wordG_great HM.out ht)
  have m1 : (i : Int) <= (m : Int) := by omega
  have m2 : (m : Int) <= (l.length : Int) := by omega
  have G2 := hid (GR.out t htl)
  obtain ⟨g, hg⟩ : ∃ g, greatL t = g := ⟨_, rfl⟩
  rw [hg] at HA G2
  clear ht GR hg
  by_cases h1 : g = [80, 82, 69, 70, 73, 88]
  ·have HI : Hid (wordG l i = .inl ⟨7, g, [], [], (i : Nat), (m : Nat)⟩) := hid (by rw [HA.out, if_pos (.inl h1)])
   have HG := hid h1
   clear HA
   go_wp2_with (go_at_call 83; (with_reducible refine (G2.out _).mono ?_); rintro e w3 ⟨rfl, hb⟩; replace HK := hid (HK.out.below hb); replace HB0 := hid (HB0.out.trans (hb.mono HB0.out.size)); clear a0 a1 a2 a3 a4 a5 p0 p1 p2 p3 p4 p5 d0 d1 e0 e1 hlt hlt0 hb; obtain ⟨a0, a1, a2, a3, a4, a5, p0, p1, p2, p3, p4, p5, d0, d1, e0, e1, hlt⟩ := HK.out; have hlt0 := Nat.lt_of_succ_lt hlt)
   exact tokr_done (V := w3) rfl HK.out HB0.out rfl rfl (by rw [HI.out, HG.out]; rfl)
  have s1 : (g == [80, 82, 69, 70, 73, 88]) = false := beq_eq_false_iff_ne.2 h1
  by_cases h2 : g = [66, 65, 83, 69]
  ·have HI : Hid (wordG l i = .inl ⟨7, g, [], [], (i : Nat), (m : Nat)⟩) := hid (by rw [HA.out, if_pos (.inr (.inl h2))])
   have HG := hid h2
   clear HA h1
   go_wp2_with (go_at_call 83; (with_reducible refine (G2.out _).mono ?_); rintro e w3 ⟨rfl, hb⟩; replace HK := hid (HK.out.below hb); replace HB0 := hid (HB0.out.trans (hb.mono HB0.out.size)); clear a0 a1 a2 a3 a4 a5 p0 p1 p2 p3 p4 p5 d0 d1 e0 e1 hlt hlt0 hb; obtain ⟨a0, a1, a2, a3, a4, a5, p0, p1, p2, p3, p4, p5, d0, d1, e0, e1, hlt⟩ := HK.out; have hlt0 := Nat.lt_of_succ_lt hlt)
   exact tokr_done (V := w3) rfl HK.out HB0.out rfl rfl (by rw [HI.out, HG.out]; rfl)
  have s2 : (g == [66, 65, 83, 69]) = false := beq_eq_false_iff_ne.2 h2
  by_cases h3 : g = [71, 82, 65, 80, 72]
  ·have HI : Hid (wordG l i = .inl ⟨7, g, [], [], (i : Nat), (m : Nat)⟩) := hid (by rw [HA.out, if_pos (.inr (.inr h3))])
   have HG := hid h3
   clear HA h1 h2
   go_wp2_with (go_at_call 83; (with_reducible refine (G2.out _).mono ?_); rintro e w3 ⟨rfl, hb⟩; replace HK := hid (HK.out.below hb); replace HB0 := hid (HB0.out.trans (hb.mono HB0.out.size)); clear a0 a1 a2 a3 a4 a5 p0 p1 p2 p3 p4 p5 d0 d1 e0 e1 hlt hlt0 hb; obtain ⟨a0, a1, a2, a3, a4, a5, p0, p1, p2, p3, p4, p5, d0, d1, e0, e1, hlt⟩ := HK.out; have hlt0 := Nat.lt_of_succ_lt hlt)
   exact tokr_done (V := w3) rfl HK.out HB0.out rfl rfl (by rw [HI.out, HG.out]; rfl)
  have s3 : (g == [71, 82, 65, 80, 72]) = false := beq_eq_false_iff_ne.2 h3
  have HA2 := hid (HA.out.trans (if_neg (by rintro (h | h | h); exact h1 h; exact h2 h; exact h3 h)))
  clear HA h1 h2 h3
  by_cases h1 : t = [97]
  ·have HI : Hid (wordG l i = .inl ⟨7, t, [], [], (i : Nat), (m : Nat)⟩) := hid (by rw [HA2.out, if_pos (.inl h1)])
   have q1 : (t == [97]) = true := beq_iff_eq.2 h1
   clear HA2 h1
   go_wp2_with (go_at_call 83; (with_reducible refine (G2.out _).mono ?_); rintro e w3 ⟨rfl, hb⟩; replace HK := hid (HK.out.below hb); replace HB0 := hid (HB0.out.trans (hb.mono HB0.out.size)); clear a0 a1 a2 a3 a4 a5 p0 p1 p2 p3 p4 p5 d0 d1 e0 e1 hlt hlt0 hb; obtain ⟨a0, a1, a2, a3, a4, a5, p0, p1, p2, p3, p4, p5, d0, d1, e0, e1, hlt⟩ := HK.out; have hlt0 := Nat.lt_of_succ_lt hlt)
   exact tokr_done (V := w3) rfl HK.out HB0.out rfl rfl (by rw [HI.out]; exact tokRef_of (t := ⟨7, t, [], [], (i : Nat), (m : Nat)⟩) rfl rfl rfl rfl rfl)
  have t1 : (t == [97]) = false := beq_eq_false_iff_ne.2 h1
  by_cases h2 : t = [116, 114, 117, 101]
  ·have HI : Hid (wordG l i = .inl ⟨7, t, [], [], (i : Nat), (m : Nat)⟩) := hid (by rw [HA2.out, if_pos (.inr (.inl h2))])
   have q1 : (t == [116, 114, 117, 101]) = true := beq_iff_eq.2 h2
   clear HA2 h1 h2
   go_wp2_with (go_at_call 83; (with_reducible refine (G2.out _).mono ?_); rintro e w3 ⟨rfl, hb⟩; replace HK := hid (HK.out.below hb); replace HB0 := hid (HB0.out.trans (hb.mono HB0.out.size)); clear a0 a1 a2 a3 a4 a5 p0 p1 p2 p3 p4 p5 d0 d1 e0 e1 hlt hlt0 hb; obtain ⟨a0, a1, a2, a3, a4, a5, p0, p1, p2, p3, p4, p5, d0, d1, e0, e1, hlt⟩ := HK.out; have hlt0 := Nat.lt_of_succ_lt hlt)
   exact tokr_done (V := w3) rfl HK.out HB0.out rfl rfl (by rw [HI.out]; exact tokRef_of (t := ⟨7, t, [], [], (i : Nat), (m : Nat)⟩) rfl rfl rfl rfl rfl)
  have t2 : (t == [116, 114, 117, 101]) = false := beq_eq_false_iff_ne.2 h2
  by_cases h3 : t = [102, 97, 108, 115, 101]
  ·have HI : Hid (wordG l i = .inl ⟨7, t, [], [], (i : Nat), (m : Nat)⟩) := hid (by rw [HA2.out, if_pos (.inr (.inr h3))])
   have q1 : (t == [102, 97, 108, 115, 101]) = true := beq_iff_eq.2 h3
   clear HA2 h1 h2 h3
   go_wp2_with (go_at_call 83; (with_reducible refine (G2.out _).mono ?_); rintro e w3 ⟨rfl, hb⟩; replace HK := hid (HK.out.below hb); replace HB0 := hid (HB0.out.trans (hb.mono HB0.out.size)); clear a0 a1 a2 a3 a4 a5 p0 p1 p2 p3 p4 p5 d0 d1 e0 e1 hlt hlt0 hb; obtain ⟨a0, a1, a2, a3, a4, a5, p0, p1, p2, p3, p4, p5, d0, d1, e0, e1, hlt⟩ := HK.out; have hlt0 := Nat.lt_of_succ_lt hlt)
   exact tokr_done (V := w3) rfl HK.out HB0.out rfl rfl (by rw [HI.out]; exact tokRef_of (t := ⟨7, t, [], [], (i : Nat), (m : Nat)⟩) rfl rfl rfl rfl rfl)
  have t3 : (t == [102, 97, 108, 115, 101]) = false := beq_eq_false_iff_ne.2 h3
  have HI : Hid (wordG l i = .inr (i, 100)) := hid (by rw [HA2.out, if_neg (by rintro (h | h | h); exact h1 h; exact h2 h; exact h3 h)])
  clear HA2 h1 h2 h3
  go_wp2_with (go_at_call 83; (with_reducible refine (G2.out _).mono ?_); rintro e w3 ⟨rfl, hb⟩; replace HK := hid (HK.out.below hb); replace HB0 := hid (HB0.out.trans (hb.mono HB0.out.size)); clear a0 a1 a2 a3 a4 a5 p0 p1 p2 p3 p4 p5 d0 d1 e0 e1 hlt hlt0 hb; obtain ⟨a0, a1, a2, a3, a4, a5, p0, p1, p2, p3, p4, p5, d0, d1, e0, e1, hlt⟩ := HK.out; have hlt0 := Nat.lt_of_succ_lt hlt)
  exact tokr_done (V := w3) rfl HK.out HB0.out rfl rfl (by rw [HI.out]; rfl)
end Go.Proofs.YtdhmpakhdhdebaaGreatDoor
namespace Go.Proofs.YtdhmpakhdhdebaaGreatDoor
open Go.Lib (hid)
open Go.RowKit
set_option maxRecDepth 100000
def prefV (l : List UInt8) (i : Nat) : Int := match prefE l i with
 | none => -1
 | some e => (e : Int) - (i : Int)
theorem prefV_no {l : List UInt8} {i m : Nat} (h : wordE l true i = m) (hx : ¬ (m < l.length /\ l.getD m 0 = 58 /\ prefOk (cutF l i m) = true)) : prefV l i = -1 := by
 unfold prefV prefE
 rw [h, if_neg hx]
theorem prefV_yes {l : List UInt8} {i m : Nat} (h : wordE l true i = m) (h1 : m < l.length) (h2 : l.getD m 0 = 58) (h3 : prefOk (cutF l i m) = true) : prefV l i = (m : Int) - (i : Int) := by
 unfold prefV prefE
 rw [h, if_pos ⟨h1, h2, h3⟩]
theorem word_colon {l : List UInt8} {j : Nat} {d : Bool} (h : j < l.length) (h2 : l[j] = 58) : wordE l d j = j := by
 have hg : l.getD j 0 = 58 := by simp [List.getD, h, h2]
 refine wordE_stop (at_low h (by rw [hg]; decide)) (.inr ⟨by rw [hg]; decide, ?_⟩)
 rw [hg]
 rintro ⟨_, x⟩
 exact absurd x (by decide)
set_option maxHeartbeats 3200000 in
theorem refPref10_l (l : List UInt8) (i : Nat) (w : World) (hi : i <= l.length) (hl : l.length <= 1048576) :
  Calls Tryz.prog 162 #[.string (B l), .int .i64 (i : Int)] w fun e w' => e = .returned (.int .i64 (prefV l i)) /\ Below w.heap.size w w' := by
 have k0 : (0 : Int) <= (i : Int) := by omega
 have k1 : (i : Int) <= (l.length : Int) := by omega
 have NEXT := hid (fun (j : Nat) (hj : j < l.length) (v : Int) (n : Nat) (h : nextAt l (j : Int) = (v, n)) (u : World) => h ▸ refNext_l l j u (by omega) (by omega))
 have FOL := hid refFollow_any
 have PR := hid (fun (s : List UInt8) (hs : s.length <= 1048576) (u : World) => refPrefix_l s u hs)
 go_enter Tryz.func162, Tryz.ntmps162
 go_upto_block 0 with fail
 go_cut [5] from 9 to 38 (fun x5 wx => ∃ m : Nat, x5 = .int .i64 (m : Int) /\ i <= m /\ m <= l.length /\ Hid (wordE l true i = m) /\ Hid (m < l.length -> l.getD m 0 = 58) /\ Hid (Below w.heap.size w wx))
 case first =>
  go_wp2_with fail
  go_loopw [5] (fun z wr => ∃ j : Nat, z = .int .i64 (j : Int) /\ i <= j /\ j <= l.length /\ Hid (wordE l true i = wordE l true j) /\ Hid (Below w.heap.size w wr)) (fun z _ => l.length - (intOf z).toNat)
  case atStart => exact ⟨i, rfl, Nat.le_refl _, hi, hid rfl, hid (Below.refl _ _)⟩
  case round =>
   obtain ⟨j, rfl, hij, hj, HE, HB⟩ := hrel
   have j0 : (0 : Int) <= (j : Int) := by omega
   by_cases hjl : j < l.length
   ·have c1 : decide ((j : Int) < (l.length : Int)) = true := decide_eq_true (by omega)
    have c2 : decide (j < l.length) = true := decide_eq_true hjl
    have c3 : (j : Int) < (l.length : Int) := by omega
    by_cases h58 : l[j] = 58
    ·have y58 : ((l[j].toNat : Int) != 58) = false := byte_eqi (d := 58) h58
     have HX : Hid (wordE l true i = j) := hid (by rw [HE.out, word_colon hjl h58])
     have HC : Hid (j < l.length -> l.getD j 0 = 58) := hid (fun _ => by simp [List.getD, hjl, h58])
     clear HE NEXT PR h58
     go_wp2_with fail
     go_meet
     exact ⟨j, rfl, hij, hj, HX, HC, HB⟩
    have y58 : ((l[j].toNat : Int) != 58) = true := byte_nei (d := 58) h58
    have hg : l.getD j 0 ≠ 58 := by simp [List.getD, hjl]; exact h58
    obtain ⟨v, n, hq⟩ : ∃ v n, nextAt l (j : Int) = (v, n) := ⟨_, _, rfl⟩
    have N2 := hid (NEXT.out j hjl v n hq)
    by_cases hn : n = 0
    ·have HX : Hid (prefV l i = -1) := hid (prefV_no (HE.out.trans (wordE_stop hq (.inl hn))) (fun x => hg x.2.1))
     have m0 : ((n : Int) == 0) = true := by rw [hn]; rfl
     clear hq hn HE NEXT PR h58 hg
     go_wp2_with (first | (go_at_call 64; (with_reducible refine (N2.out _).mono ?_); rintro e w1 ⟨rfl, hb⟩; replace HB := hid (HB.out.trans (hb.mono HB.out.size)); clear hb; unfold pairI))
     go_ret
     exact ⟨ret_i64 HX.out.symm, HB.out⟩
    have m0 : ((n : Int) == 0) = false := beq_eq_false_iff_ne.2 (by omega)
    have hb2 := nextAt_bound hq hn
    have W1 : IntKind.i64.wrap ((j : Int) + (n : Int)) = (j : Int) + (n : Int) := IntWalk.i64_in _ (by omega)
    have hjn : j + n <= l.length := by omega
    have hnp : 0 < n := by omega
    cases hf : followB v with
    | true =>
     have HX : Hid (wordE l true i = wordE l true (j + n)) := hid (by rw [HE.out, wordE_go hq (fun x => by rcases x with x | x; exact hn x; rw [hf] at x; cases x.1)])
     clear hq hn HE NEXT PR hb2 h58 hg
     go_wp2_with (first | (go_at_call 64; (with_reducible refine (N2.out _).mono ?_); rintro e w1 ⟨rfl, hb⟩; replace HB := hid (HB.out.trans (hb.mono HB.out.size)); clear hb; unfold pairI) | (go_at_call 184; (with_reducible refine (FOL.out v _).mono ?_); rintro e w2 ⟨rfl, hb⟩; replace HB := hid (HB.out.trans (hb.mono HB.out.size)); clear hb))
     go_roundw
     case rel => exact ⟨j + n, by go_num, by omega, hjn, HX, HB⟩
     case measure => simp [intOf]; omega
    | false =>
     by_cases h46 : v = 46
     ·have x46 : (v != 46) = false := by rw [h46]; rfl
      have HX : Hid (wordE l true i = wordE l true (j + n)) := hid (by rw [HE.out, wordE_go hq (fun x => by rcases x with x | x; exact hn x; exact x.2 ⟨rfl, h46⟩)])
      clear hq hn HE NEXT PR hb2 h58 hg h46
      go_wp2_with (first | (go_at_call 64; (with_reducible refine (N2.out _).mono ?_); rintro e w1 ⟨rfl, hb⟩; replace HB := hid (HB.out.trans (hb.mono HB.out.size)); clear hb; unfold pairI) | (go_at_call 184; (with_reducible refine (FOL.out v _).mono ?_); rintro e w2 ⟨rfl, hb⟩; replace HB := hid (HB.out.trans (hb.mono HB.out.size)); clear hb))
      go_roundw
      case rel => exact ⟨j + n, by go_num, by omega, hjn, HX, HB⟩
      case measure => simp [intOf]; omega
     ·have x46 : (v != 46) = true := bne_iff_ne.2 h46
      have HX : Hid (prefV l i = -1) := hid (prefV_no (HE.out.trans (wordE_stop hq (.inr ⟨hf, fun x => h46 x.2⟩))) (fun x => hg x.2.1))
      clear hq hn HE NEXT PR hb2 h58 hg h46
      go_wp2_with (first | (go_at_call 64; (with_reducible refine (N2.out _).mono ?_); rintro e w1 ⟨rfl, hb⟩; replace HB := hid (HB.out.trans (hb.mono HB.out.size)); clear hb; unfold pairI) | (go_at_call 184; (with_reducible refine (FOL.out v _).mono ?_); rintro e w2 ⟨rfl, hb⟩; replace HB := hid (HB.out.trans (hb.mono HB.out.size)); clear hb))
      go_ret
      exact ⟨ret_i64 HX.out.symm, HB.out⟩
   ·have c1 : decide ((j : Int) < (l.length : Int)) = false := decide_eq_false (by omega)
    have c2 : decide (j < l.length) = false := decide_eq_false hjl
    have HX : Hid (wordE l true i = j) := hid (by rw [HE.out, wordE_stop (nextAt_out (.inr (by omega))) (.inl rfl)])
    have HC : Hid (j < l.length -> l.getD j 0 = 58) := hid (fun h => absurd h hjl)
    clear HE NEXT PR
    go_wp2_with fail
    go_meet
    exact ⟨j, rfl, hij, hj, HX, HC, HB⟩
 case rest =>
  obtain ⟨m, rfl, him, hml, HE, HC, HB⟩ := hcut
  by_cases hm : m < l.length
  case neg =>
   have e9 : ((m : Int) == (l.length : Int)) = true := beq_iff_eq.2 (by omega)
   have HX : Hid (prefV l i = -1) := hid (prefV_no HE.out (fun x => hm x.1))
   clear HE HC NEXT PR
   go_wp2_with fail
   go_ret
   exact ⟨ret_i64 HX.out.symm, HB.out⟩
  have e9 : ((m : Int) == (l.length : Int)) = false := beq_eq_false_iff_ne.2 (by omega)
  obtain ⟨t, ht⟩ : ∃ t, cutF l i m = t := ⟨_, rfl⟩
  have hcut2 : List.take (m - i) (List.drop i l) = t := ht
  have htl : t.length <= 1048576 := by rw [<- ht]; have := cutF_len l i m; omega
  have m1 : (i : Int) <= (m : Int) := by omega
  have m2 : (m : Int) <= (l.length : Int) := by omega
  have P1 := PR.out t htl
  rw [prefix_num t] at P1
  cases hp : prefOk t with
  | true =>
   rw [hp] at P1
   have P2 := hid P1
   have HX : Hid (prefV l i = (m : Int) - (i : Int)) := hid (prefV_yes HE.out hm (HC.out hm) (by rw [ht]; exact hp))
   have W1 : IntKind.i64.wrap ((m : Int) - (i : Int)) = (m : Int) - (i : Int) := IntWalk.i64_in _ (by omega)
   clear HE HC NEXT PR P1 ht hp
   go_wp2_with (go_at_call 208; (with_reducible refine (P2.out _).mono ?_); rintro e w2 ⟨rfl, hb⟩; replace HB := hid (HB.out.trans (hb.mono HB.out.size)); clear hb)
   go_ret
   exact ⟨ret_i64 HX.out.symm, HB.out⟩
  | false =>
   rw [hp] at P1
   have P2 := hid P1
   have HX : Hid (prefV l i = -1) := hid (prefV_no HE.out (fun x => by rw [ht, hp] at x; cases x.2.2))
   clear HE HC NEXT PR P1 ht hp
   go_wp2_with (go_at_call 208; (with_reducible refine (P2.out _).mono ?_); rintro e w2 ⟨rfl, hb⟩; replace HB := hid (HB.out.trans (hb.mono HB.out.size)); clear hb)
   go_ret
   exact ⟨ret_i64 HX.out.symm, HB.out⟩
end Go.Proofs.YtdhmpakhdhdebaaGreatDoor
