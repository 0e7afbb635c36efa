/-
  tesseraref10.Local: a contract. By an AI agent.
-/
import Derived.Test.YtdhmpakhdhdebaaGreatDoorZLexR7
import Derived.Test.YtdhmpakhdhdebaaGreatDoorZTerm1
import Derived.Test.YtdhmpakhdhdebaaGreatDoorZRefLocal
namespace Go.Proofs.YtdhmpakhdhdebaaGreatDoor
open Go.RowKit
set_option maxRecDepth 100000
theorem bytes_take {P : Program} {w : World} {base : Nat} {e : TypeId} {v : Value} {n : Nat} {l : List UInt8} (src dst : TypeId) (hs : P.underlying src = some (.slice e)) (he : P.underlying e = some (.int .u8)) (hd : P.underlying dst = some .string)
   (h : w.ownsRow base e 1 v n (l.map U8)) : ∃ a cap, v = .slice a n cap /\ n <= cap /\ ∀ k, k <= n -> ∀ d, (convert src dst (.slice a k cap)).run P (w.drewN d) = .ok (.string (B (l.take k))) (w.drewN d) := by
 obtain ⟨a, cap, rfl, hcap, hx, ha⟩ := ownsRow_at h
 refine ⟨a, cap, rfl, hcap, fun k hk d => ?_⟩
 rw [List.length_map] at hx
 obtain ⟨t, ht⟩ : ∃ t, l.take k = t := ⟨_, rfl⟩
 have hkt : t.length = k := by rw [<- ht, List.length_take]; omega
 rw [ht]
 by_cases h0 : k = 0
 · obtain rfl : t = [] := List.eq_nil_of_length_eq_zero (by omega)
   subst h0
   rcases h.2 with ⟨h1, h2⟩ | ⟨g, cap', cur, hv, _⟩
   · cases h1
     exact run_convert_bytes_nil (w.drewN d) src e hs he 0 0 dst hd
   · cases hv
     exact back_of_row (w.drewN d) src dst e g cap 0 [] rfl hs he hd (fun j hj => by simp at hj)
 · refine conv_at (w.drewN d) src dst e a cap k t hkt (by omega) hs he hd (fun j hj => ?_)
   have hj2 : j < (l.map U8).length := by simp at hj ⊢; omega
   have := ha j hj2
   rw [show (t.map U8)[j] = (l.map U8)[j] by subst ht; simp]
   exact this
theorem refPiece_len {l : List UInt8} {j n : Nat} {t : List UInt8} {r : Int} (h : refPieceF l j = (t, n, r)) : t.length <= n := by
 unfold refPieceF at h
 split at h
 · cases h; simp; omega
 · split at h
   · cases h; simp; omega
   · split at h
     · cases h; simp
     · cases h; simp; omega
theorem locG_more {l : List UInt8} {a j n e kn : Nat} {S t : List UInt8} {r : Int} {fb : Bool} (hf : decide (j = a) = fb) (hp : pieceF l j = (t, n, r)) (hm : mayP (pieceF l j) fb = true) (hk : kn <= S.length) (HS : localG l a = locG l a j S e (S.take kn)) :
   (lastP (t, n, r) fb = true -> localG l a = locG l a (j + n) (S ++ t) (j + n) ((S ++ t).take (S.length + t.length))) /\ (lastP (t, n, r) fb = false -> localG l a = locG l a (j + n) (S ++ t) e ((S ++ t).take kn)) := by
 subst hf
 rw [HS, locG_go hm, hp]
 refine ⟨fun h => ?_, fun h => ?_⟩
 · rw [h, if_pos rfl, if_pos rfl, List.take_of_length_le (by simp)]
 · rw [h, if_neg (by simp), if_neg (by simp), List.take_append_of_le_length hk]
theorem locRet {l : List UInt8} {a e : Nat} {K : List UInt8} (h : localG l a = (e, K)) : Ending.returned (.tuple #[.int .i64 (e : Int), .string (B K)]) = .returned (.tuple #[.int .i64 ((localG l a).1 : Int), .string (B (localG l a).2)]) := by rw [h]
set_option maxHeartbeats 6400000 in
theorem refLocal10_l (l : List UInt8) (a : Nat) (w : World) (ha : a <= l.length) (hl : l.length <= 1048576) :
   Calls Tryz.prog 164 #[.string (B l), .int .i64 (a : Int)] w fun e w' => e = .returned (.tuple #[.int .i64 ((localG l a).1 : Int), .string (B (localG l a).2)]) /\ Below w.heap.size w w' := by
 obtain ⟨i0, hi, hz0, hz1, hz2⟩ := info_parts infoByte
 have k0 : (0 : Int) <= (a : Int) := by omega
 have PIE := Lib.hid (fun (j : Nat) (hj : j < l.length) (t : List UInt8) (n : Nat) (r : Int) (h : refPieceF l j = (t, n, r)) (w : World) => h ▸ refPieceAt_l l j w (by omega) hj)
 go_enter Tryz.func164, Tryz.ntmps164
 go_upto_block 0 with fail
 go_cut [6, 7, 8] from 14 to 62 (fun x6 x7 x8 wx => ∃ (S : List UInt8) (e kn : Nat), x7 = .int .i64 (e : Int) /\ x8 = .int .i64 (kn : Int) /\ kn <= S.length /\ S.length <= l.length /\ Hid (localG l a = (e, S.take kn)) /\ Hid (wx.ownsRow w.heap.size 5 1 x6 S.length (S.map U8)) /\ Hid (Below w.heap.size w wx))
 case first =>
   go_wp2_with fail
   go_loopw [6, 7, 8, 9] (fun o ev kv i wr => ∃ (j e kn : Nat) (S : List UInt8), ev = .int .i64 (e : Int) /\ kv = .int .i64 (kn : Int) /\ i = .int .i64 (j : Int) /\ a <= j /\ j <= l.length /\ kn <= S.length /\ S.length <= j /\ Hid (localG l a = locG l a j S e (S.take kn)) /\ wr.ownsRow w.heap.size 5 1 o S.length (S.map U8) /\ Below w.heap.size w wr) (fun _ _ _ i _ => l.length - (intOf i).toNat)
   case atStart => exact ⟨a, a, 0, [], rfl, rfl, rfl, Nat.le_refl _, ha, Nat.zero_le _, Nat.zero_le _, Lib.hid rfl, World.ownsRow_nil _ _ _ _, Below.refl _ _⟩
   case round =>
     obtain ⟨j, e, kn, S, rfl, rfl, rfl, haj, hj, hkn, hSj, HS, hown, hb⟩ := hrel
     have j0 : (0 : Int) <= (j : Int) := by omega
     by_cases hjl : j < l.length
     · have c1 : decide ((j : Int) < (l.length : Int)) = true := decide_eq_true (by omega)
       have c2 : decide (j < l.length) = true := decide_eq_true hjl
       obtain ⟨t, n, r, hp⟩ : ∃ t n r, refPieceF l j = (t, n, r) := ⟨_, _, _, rfl⟩
       have P2 := Lib.hid (PIE.out j hjl t n r hp)
       by_cases hn : n = 0
       · have e1 : ((n : Int) == 0) = true := by rw [hn]; rfl
         obtain ⟨fb, hf⟩ : ∃ fb, decide (j = a) = fb := ⟨_, rfl⟩
         have hmay := refPiece_may hp fb
         have HX : Hid (localG l a = (e, S.take kn)) := Lib.hid (HS.out.trans (locG_stop (by rw [hf]; exact hmay.1 (.inl hn))))
         clear hp hmay hn HS PIE hf
         go_wp2_with (first | (go_at_call 209; (with_reducible refine (P2.out _).mono ?_); rintro e w1 ⟨rfl, hx1⟩; unfold refPieceV))
         go_meet
         exact ⟨S, e, kn, rfl, rfl, hkn, by omega, HX, Lib.hid (ownsRow_below hown (hx1.trans (((Below.refl w1.heap.size w1).alloc (Nat.le_refl _) _).mono hx1.size))), Lib.hid (hb.trans ((hx1.trans (((Below.refl w1.heap.size w1).alloc (Nat.le_refl _) _).mono hx1.size)).mono hb.size))⟩
       have e1 : ((n : Int) == 0) = false := beq_eq_false_iff_ne.2 (by omega)
       by_cases hr : 0 <= r
       case neg =>
         have r0 : decide ((0 : Int) <= r) = false := decide_eq_false hr
         have r1 : decide (r < 0) = true := decide_eq_true (by omega)
         obtain ⟨fb, hf⟩ : ∃ fb, decide (j = a) = fb := ⟨_, rfl⟩
         have hmay := refPiece_may hp fb
         have HM2 := hmay.2 hn (.inl (by omega))
         have HX := Lib.hid ((locG_more hf HM2.2.1 HM2.1 hkn HS.out).1 (by unfold lastP; rw [(hmay.2 hn (.inl (by omega))).2.2 (by omega)]; rfl))
         have HT := Lib.hid (refPiece_len hp)
         have hnp : 0 < n := by omega
         have hjn : j + n <= l.length := by have := pieceF_bound HM2.1; rw [HM2.2.1] at this; exact this.2
         have hlx : S.length + t.length <= 140737488355328 := by have := HT.out; omega
         have HLT := Lib.hid hown.lt
         have W1 : IntKind.i64.wrap ((j : Int) + (n : Int)) = (j : Int) + (n : Int) := IntWalk.i64_in _ (by omega)
         have W2 : IntKind.i64.wrap ((j : Int) + (n : Int) - (n : Int)) = (j : Int) := by rw [show (j : Int) + (n : Int) - (n : Int) = (j : Int) by omega]; exact IntWalk.i64_in _ (by omega)
         have W3 : IntKind.i64.wrap (j : Int) = (j : Int) := IntWalk.i64_in _ (by omega)
         clear HM2
         clear hp hmay hn HS PIE hf
         go_wp2_with (first | (go_at_call 209; (with_reducible refine (P2.out _).mono ?_); rintro e w1 ⟨rfl, hx1⟩; unfold refPieceV) | (at_builtin; have h04 := hx1.trans (((Below.refl w1.heap.size w1).alloc (Nat.le_refl _) (.cells #[.int .i64 (j : Int), .int .i64 (n : Int), .string (B t), .int .i64 r] 253)).mono hx1.size); have q1 := new_cell (Below.refl _ (w1.alloc (.cells #[.int .i64 (j : Int), .int .i64 (n : Int), .string (B t), .int .i64 r] 253))) 1 _ rfl; have hown2 := ownsRow_below hown h04; have hb2 := hb.trans (h04.mono hb.size); refine Lib.wpList_append_own_string _ rfl (.tmp 38) (.tmp 40) 35 9 rfl w.heap.size 5 i0 Tryz.underlying35 Tryz.underlying9 hi hz0 hz1 hz2 _ _ _ rfl hown2 (B t) rfl ?c1 ?c2 hb2.size ?_))
         case c1 => have := B_size t; simp; unfold maxLen; omega
         case c2 => have := B_size t; simp; omega
         intro v' w9 hown9 hg9 _
         have q19 := cell_grown q1 hg9 (fun e => by have := (HLT.out _ e.symm).2; have := hx1.size; omega)
         have hown4 : w9.ownsRow w.heap.size 5 1 v' (S ++ t).length ((S ++ t).map U8) := by
           rw [strCells_l] at hown9
           simpa using hown9
         have hb4 := hb2.grown hg9 hb2.size (fun k hk => (hown2.lt k hk).1)
         obtain ⟨a9, cap9, rfl, hcap9, _, _⟩ := ownsRow_at hown4
         clear hown hown2 hown9 hg9 q1 hx1 hb hb2
         go_wp2_with fail
         go_roundw
         case rel => exact ⟨j + n, j + n, S.length + t.length, S ++ t, by go_num, by go_num, by go_num, by omega, hjn, by simp, by have := HT.out; simp; omega, HX, hown4, hb4⟩
         case measure => simp [intOf]; omega
       have r0 : decide ((0 : Int) <= r) = true := decide_eq_true hr
       have r1 : decide (r < 0) = false := decide_eq_false (by omega)
       by_cases hja : j = a
       · have ej : ((j : Int) == (a : Int)) = true := beq_iff_eq.2 (by omega)
         have hf := decide_eq_true hja
         have hmay := refPiece_may hp true
         clear hja
         cases hs : standsB r true false with
         | false =>
           have MAY : Hid (∀ u, Calls Tryz.prog 210 #[.int .i64 r, .bool true, .bool false] u fun e w' => e = .returned (.bool false) /\ Below u.heap.size u w') := Lib.hid (fun u => by have h := refMay_l r true false u; rw [hs] at h; exact h)
           have HX : Hid (localG l a = (e, S.take kn)) := Lib.hid (HS.out.trans (locG_stop (by rw [hf]; exact hmay.1 (.inr ⟨hr, hs⟩))))
           clear hp hmay hn HS PIE hf
           go_wp2_with (first | (go_at_call 209; (with_reducible refine (P2.out _).mono ?_); rintro e w1 ⟨rfl, hx1⟩; unfold refPieceV) | (go_at_call 210; (with_reducible refine (MAY.out _).mono ?_); rintro e w4 ⟨rfl, hx4⟩; have q1 := new_cell hx4 1 _ rfl; have q2 := new_cell hx4 2 _ rfl; have q3 := new_cell hx4 3 _ rfl; have h04 := hx1.trans ((((Below.refl w1.heap.size w1).alloc (Nat.le_refl _) _).trans (hx4.mono (by simp))).mono hx1.size); have hown2 := ownsRow_below hown h04; have hb2 := hb.trans (h04.mono hb.size); clear hx4 h04))
           go_meet
           exact ⟨S, e, kn, rfl, rfl, hkn, by omega, HX, Lib.hid hown2, Lib.hid hb2⟩
         | true =>
           have MAY : Hid (∀ u, Calls Tryz.prog 210 #[.int .i64 r, .bool true, .bool false] u fun e w' => e = .returned (.bool true) /\ Below u.heap.size u w') := Lib.hid (fun u => by have h := refMay_l r true false u; rw [hs] at h; exact h)
           have HM2 := hmay.2 hn (.inr hs)
           have HX := Lib.hid ((locG_more hf HM2.2.1 HM2.1 hkn HS.out).1 (by unfold lastP; simp))
           have HT := Lib.hid (refPiece_len hp)
           have hnp : 0 < n := by omega
           have hjn : j + n <= l.length := by have := pieceF_bound HM2.1; rw [HM2.2.1] at this; exact this.2
           have hlx : S.length + t.length <= 140737488355328 := by have := HT.out; omega
           have HLT := Lib.hid hown.lt
           have W1 : IntKind.i64.wrap ((j : Int) + (n : Int)) = (j : Int) + (n : Int) := IntWalk.i64_in _ (by omega)
           have W2 : IntKind.i64.wrap ((j : Int) + (n : Int) - (n : Int)) = (j : Int) := by rw [show (j : Int) + (n : Int) - (n : Int) = (j : Int) by omega]; exact IntWalk.i64_in _ (by omega)
           have W3 : IntKind.i64.wrap (j : Int) = (j : Int) := IntWalk.i64_in _ (by omega)
           clear HM2
           clear hp hmay hn HS PIE hf
           go_wp2_with (first | (go_at_call 209; (with_reducible refine (P2.out _).mono ?_); rintro e w1 ⟨rfl, hx1⟩; unfold refPieceV) | (go_at_call 210; (with_reducible refine (MAY.out _).mono ?_); rintro e w4 ⟨rfl, hx4⟩; have q1 := new_cell hx4 1 _ rfl; have q2 := new_cell hx4 2 _ rfl; have q3 := new_cell hx4 3 _ rfl; have h04 := hx1.trans ((((Below.refl w1.heap.size w1).alloc (Nat.le_refl _) _).trans (hx4.mono (by simp))).mono hx1.size); have hown2 := ownsRow_below hown h04; have hb2 := hb.trans (h04.mono hb.size); clear hx4 h04) | (at_builtin; refine Lib.wpList_append_own_string _ rfl (.tmp 38) (.tmp 40) 35 9 rfl w.heap.size 5 i0 Tryz.underlying35 Tryz.underlying9 hi hz0 hz1 hz2 _ _ _ rfl hown2 (B t) rfl ?c1 ?c2 hb2.size ?_))
           case c1 => have := B_size t; simp; unfold maxLen; omega
           case c2 => have := B_size t; simp; omega
           intro v' w9 hown9 hg9 _
           have q19 := cell_grown q1 hg9 (fun e => by have := (HLT.out _ e.symm).2; have := hx1.size; omega)
           have hown4 : w9.ownsRow w.heap.size 5 1 v' (S ++ t).length ((S ++ t).map U8) := by
             rw [strCells_l] at hown9
             simpa using hown9
           have hb4 := hb2.grown hg9 hb2.size (fun k hk => (hown2.lt k hk).1)
           obtain ⟨a9, cap9, rfl, hcap9, _, _⟩ := ownsRow_at hown4
           clear hown hown2 hown9 hg9 q1 hx1 hb hb2 q2 q3
           go_wp2_with fail
           go_roundw
           case rel => exact ⟨j + n, j + n, S.length + t.length, S ++ t, by go_num, by go_num, by go_num, by omega, hjn, by simp, by have := HT.out; simp; omega, HX, hown4, hb4⟩
           case measure => simp [intOf]; omega
       · have ej : ((j : Int) == (a : Int)) = false := beq_eq_false_iff_ne.2 (by omega)
         have hf := decide_eq_false hja
         have hmay := refPiece_may hp false
         clear hja
         cases hs : standsB r false false with
         | false =>
           have MAY : Hid (∀ u, Calls Tryz.prog 210 #[.int .i64 r, .bool false, .bool false] u fun e w' => e = .returned (.bool false) /\ Below u.heap.size u w') := Lib.hid (fun u => by have h := refMay_l r false false u; rw [hs] at h; exact h)
           have HX : Hid (localG l a = (e, S.take kn)) := Lib.hid (HS.out.trans (locG_stop (by rw [hf]; exact hmay.1 (.inr ⟨hr, hs⟩))))
           clear hp hmay hn HS PIE hf
           go_wp2_with (first | (go_at_call 209; (with_reducible refine (P2.out _).mono ?_); rintro e w1 ⟨rfl, hx1⟩; unfold refPieceV) | (go_at_call 210; (with_reducible refine (MAY.out _).mono ?_); rintro e w4 ⟨rfl, hx4⟩; have q1 := new_cell hx4 1 _ rfl; have q2 := new_cell hx4 2 _ rfl; have q3 := new_cell hx4 3 _ rfl; have h04 := hx1.trans ((((Below.refl w1.heap.size w1).alloc (Nat.le_refl _) _).trans (hx4.mono (by simp))).mono hx1.size); have hown2 := ownsRow_below hown h04; have hb2 := hb.trans (h04.mono hb.size); clear hx4 h04))
           go_meet
           exact ⟨S, e, kn, rfl, rfl, hkn, by omega, HX, Lib.hid hown2, Lib.hid hb2⟩
         | true =>
           have MAY : Hid (∀ u, Calls Tryz.prog 210 #[.int .i64 r, .bool false, .bool false] u fun e w' => e = .returned (.bool true) /\ Below u.heap.size u w') := Lib.hid (fun u => by have h := refMay_l r false false u; rw [hs] at h; exact h)
           cases ht : standsB r false true with
           | true =>
             have MAY2 : Hid (∀ u, Calls Tryz.prog 210 #[.int .i64 r, .bool false, .bool true] u fun e w' => e = .returned (.bool true) /\ Below u.heap.size u w') := Lib.hid (fun u => by have h := refMay_l r false true u; rw [ht] at h; exact h)
             have HM2 := hmay.2 hn (.inr hs)
             have HX := Lib.hid ((locG_more hf HM2.2.1 HM2.1 hkn HS.out).1 (by unfold lastP; rw [ht]; simp))
             have HT := Lib.hid (refPiece_len hp)
             have hnp : 0 < n := by omega
             have hjn : j + n <= l.length := by have := pieceF_bound HM2.1; rw [HM2.2.1] at this; exact this.2
             have hlx : S.length + t.length <= 140737488355328 := by have := HT.out; omega
             have HLT := Lib.hid hown.lt
             have W1 : IntKind.i64.wrap ((j : Int) + (n : Int)) = (j : Int) + (n : Int) := IntWalk.i64_in _ (by omega)
             have W2 : IntKind.i64.wrap ((j : Int) + (n : Int) - (n : Int)) = (j : Int) := by rw [show (j : Int) + (n : Int) - (n : Int) = (j : Int) by omega]; exact IntWalk.i64_in _ (by omega)
             have W3 : IntKind.i64.wrap (j : Int) = (j : Int) := IntWalk.i64_in _ (by omega)
             clear HM2
             clear hp hmay hn HS PIE hf
             go_wp2_with (first | (go_at_call 209; (with_reducible refine (P2.out _).mono ?_); rintro e w1 ⟨rfl, hx1⟩; unfold refPieceV) | (go_at_call 210; (with_reducible refine (MAY.out _).mono ?_); rintro e w4 ⟨rfl, hx4⟩; have q1 := new_cell hx4 1 _ rfl; have q2 := new_cell hx4 2 _ rfl; have q3 := new_cell hx4 3 _ rfl; have h04 := hx1.trans ((((Below.refl w1.heap.size w1).alloc (Nat.le_refl _) _).trans (hx4.mono (by simp))).mono hx1.size); have hown2 := ownsRow_below hown h04; have hb2 := hb.trans (h04.mono hb.size); clear hx4 h04) | (at_builtin; refine Lib.wpList_append_own_string _ rfl (.tmp 38) (.tmp 40) 35 9 rfl w.heap.size 5 i0 Tryz.underlying35 Tryz.underlying9 hi hz0 hz1 hz2 _ _ _ rfl hown2 (B t) rfl ?c1 ?c2 hb2.size ?_))
             case c1 => have := B_size t; simp; unfold maxLen; omega
             case c2 => have := B_size t; simp; omega
             intro v' w9 hown9 hg9 _
             have q19 := cell_grown q1 hg9 (fun e => by have := (HLT.out _ e.symm).2; have := hx1.size; omega)
             have hown4 : w9.ownsRow w.heap.size 5 1 v' (S ++ t).length ((S ++ t).map U8) := by
               rw [strCells_l] at hown9
               simpa using hown9
             have hb4 := hb2.grown hg9 hb2.size (fun k hk => (hown2.lt k hk).1)
             obtain ⟨a9, cap9, rfl, hcap9, _, _⟩ := ownsRow_at hown4
             clear hown hown2 hown9 hg9 q1 hx1 hb hb2 q2 q3
             go_wp2_with (go_at_call 210; (with_reducible refine (MAY2.out _).mono ?_); rintro e w5 ⟨rfl, hx5⟩; replace hown4 := ownsRow_below hown4 hx5; replace hb4 := hb4.trans (hx5.mono hb4.size))
             go_roundw
             case rel => exact ⟨j + n, j + n, S.length + t.length, S ++ t, by go_num, by go_num, by go_num, by omega, hjn, by simp, by have := HT.out; simp; omega, HX, by simpa using hown4, hb4⟩
             case measure => simp [intOf]; omega
           | false =>
             have MAY2 : Hid (∀ u, Calls Tryz.prog 210 #[.int .i64 r, .bool false, .bool true] u fun e w' => e = .returned (.bool false) /\ Below u.heap.size u w') := Lib.hid (fun u => by have h := refMay_l r false true u; rw [ht] at h; exact h)
             have HM2 := hmay.2 hn (.inr hs)
             have HX := Lib.hid ((locG_more hf HM2.2.1 HM2.1 hkn HS.out).2 (by unfold lastP; rw [ht]; simp; omega))
             have HT := Lib.hid (refPiece_len hp)
             have hnp : 0 < n := by omega
             have hjn : j + n <= l.length := by have := pieceF_bound HM2.1; rw [HM2.2.1] at this; exact this.2
             have hlx : S.length + t.length <= 140737488355328 := by have := HT.out; omega
             have HLT := Lib.hid hown.lt
             have W1 : IntKind.i64.wrap ((j : Int) + (n : Int)) = (j : Int) + (n : Int) := IntWalk.i64_in _ (by omega)
             have W2 : IntKind.i64.wrap ((j : Int) + (n : Int) - (n : Int)) = (j : Int) := by rw [show (j : Int) + (n : Int) - (n : Int) = (j : Int) by omega]; exact IntWalk.i64_in _ (by omega)
             have W3 : IntKind.i64.wrap (j : Int) = (j : Int) := IntWalk.i64_in _ (by omega)
             clear HM2
             clear hp hmay hn HS PIE hf
             go_wp2_with (first | (go_at_call 209; (with_reducible refine (P2.out _).mono ?_); rintro e w1 ⟨rfl, hx1⟩; unfold refPieceV) | (go_at_call 210; (with_reducible refine (MAY.out _).mono ?_); rintro e w4 ⟨rfl, hx4⟩; have q1 := new_cell hx4 1 _ rfl; have q2 := new_cell hx4 2 _ rfl; have q3 := new_cell hx4 3 _ rfl; have h04 := hx1.trans ((((Below.refl w1.heap.size w1).alloc (Nat.le_refl _) _).trans (hx4.mono (by simp))).mono hx1.size); have hown2 := ownsRow_below hown h04; have hb2 := hb.trans (h04.mono hb.size); clear hx4 h04) | (at_builtin; refine Lib.wpList_append_own_string _ rfl (.tmp 38) (.tmp 40) 35 9 rfl w.heap.size 5 i0 Tryz.underlying35 Tryz.underlying9 hi hz0 hz1 hz2 _ _ _ rfl hown2 (B t) rfl ?c1 ?c2 hb2.size ?_))
             case c1 => have := B_size t; simp; unfold maxLen; omega
             case c2 => have := B_size t; simp; omega
             intro v' w9 hown9 hg9 _
             have q19 := cell_grown q1 hg9 (fun e => by have := (HLT.out _ e.symm).2; have := hx1.size; omega)
             have hown4 : w9.ownsRow w.heap.size 5 1 v' (S ++ t).length ((S ++ t).map U8) := by
               rw [strCells_l] at hown9
               simpa using hown9
             have hb4 := hb2.grown hg9 hb2.size (fun k hk => (hown2.lt k hk).1)
             obtain ⟨a9, cap9, rfl, hcap9, _, _⟩ := ownsRow_at hown4
             clear hown hown2 hown9 hg9 q1 hx1 hb hb2 q2 q3
             go_wp2_with (go_at_call 210; (with_reducible refine (MAY2.out _).mono ?_); rintro e w5 ⟨rfl, hx5⟩; replace hown4 := ownsRow_below hown4 hx5; replace hb4 := hb4.trans (hx5.mono hb4.size))
             go_roundw
             case rel => exact ⟨j + n, e, kn, S ++ t, rfl, rfl, by go_num, by omega, hjn, by simp; omega, by have := HT.out; simp; omega, HX, by simpa using hown4, hb4⟩
             case measure => simp [intOf]; omega
     · have c1 : decide ((j : Int) < (l.length : Int)) = false := decide_eq_false (by omega)
       have c2 : decide (j < l.length) = false := decide_eq_false hjl
       have HX : Hid (localG l a = (e, S.take kn)) := Lib.hid (HS.out.trans (locG_stop (Bool.eq_false_iff.2 (fun h => hjl (mayP_in h)))))
       clear HS PIE
       go_wp2_with fail
       go_meet
       exact ⟨S, e, kn, rfl, rfl, hkn, by omega, HX, Lib.hid hown, Lib.hid hb⟩
 case rest =>
   obtain ⟨S, e, kn, rfl, rfl, hkn, hSl, HX, HO, HB⟩ := hcut
   obtain ⟨a6, cap6, rfl, hc6, hcv⟩ := bytes_take (P := Tryz.prog) 35 9 Tryz.underlying35 Tryz.underlying5 Tryz.underlying9 HO.out
   have hcv2 := hcv kn hkn
   have n0 : (0 : Int) <= (kn : Int) := by omega
   have n1 : (kn : Int) <= (cap6 : Int) := by omega
   have n2 : kn <= cap6 := by omega
   clear hcv PIE
   go_wp2_with fail
   go_quiet (fail)
   go_wp2_with fail
   go_ret2
   exact ⟨locRet HX.out, below_drewN_h HB.out _⟩
end Go.Proofs.YtdhmpakhdhdebaaGreatDoor
namespace Go.Proofs.YtdhmpakhdhdebaaGreatDoor
open Go.RowKit
set_option maxRecDepth 100000
theorem tokRef_any {e : Ending} {r : TokR} (h : TokRef e r) : ∃ k x y z a f p n, e = .returned (.tuple #[tokV k x y z a f, .agg #[.int .i64 p, .int .i64 n]]) := by
 cases r with
 | inl t => exact ⟨_, _, _, _, _, _, _, _, h⟩
 | inr p => exact ⟨_, _, _, _, _, _, _, _, h⟩
set_option maxHeartbeats 1600000 in
theorem refName10_l (l : List UInt8) (i : Nat) (w : World) (hi : i <= l.length) (hl : l.length <= 1048576) :
   Calls Tryz.prog 113 #[.string (B l), .int .i64 (i : Int)] w fun e w' => TokRef e (nameG l i) /\ Below w.heap.size w w' := by
 obtain ⟨W, hW⟩ : ∃ W, (w.alloc (.cells #[.int .i64 0, .string ⟨#[]⟩, .string ⟨#[]⟩, .string ⟨#[]⟩, .int .i64 0, .int .i64 0] 50)).alloc (.cells #[.int .i64 0, .int .i64 0] 64) = W := ⟨_, rfl⟩
 have HB0 : Hid (Below w.heap.size w W) := Lib.hid (by rw [<- hW]; exact ((Below.refl _ _).alloc (Nat.le_refl _) _).alloc (by simp) _)
 have HK : Hid (TkAt W w.heap.size) := Lib.hid (by rw [<- hW]; exact tkr_new w)
 have k0 : (0 : Int) <= (i : Int) := by omega
 have k1 : (i : Int) <= (l.length : Int) := by omega
 obtain ⟨a0, a1, a2, a3, a4, a5, p0, p1, p2, p3, p4, p5, d0, d1, e0, e1, hlt⟩ := HK.out
 have hlt0 := Nat.lt_of_succ_lt hlt
 obtain ⟨q, hq⟩ : ∃ q, prefV l i = q := ⟨_, rfl⟩
 have PR := Lib.hid (fun (u : World) => hq ▸ refPref10_l l i u hi hl)
 cases hp : prefE l i with
 | none =>
   have q0 : decide (q < 0) = true := by rw [<- hq]; unfold prefV; rw [hp]; rfl
   have WD : Hid (∀ u, Calls Tryz.prog 163 #[.string (B l), .int .i64 (i : Int)] u fun e w' => TokRef e (nameG l i) /\ Below u.heap.size u w') := Lib.hid (fun u => by unfold nameG; rw [hp]; exact refWord10_l l i u hi hl)
   clear hq hp
   go_enter Tryz.func113, Tryz.ntmps113
   go_upto_block 0 with fail
   go_wp2_with (first | (go_at_call 162; (with_reducible refine (PR.out _).mono ?_); rintro e w2 ⟨rfl, hb⟩; replace HK := Lib.hid (HK.out.below hb); replace HB0 := Lib.hid (HB0.out.trans (hb.mono HB0.out.size)); clear a0 a1 a2 a3 a4 a5 p0 p1 p2 p3 p4 p5 d0 d1 e0 e1 hlt hlt0 hb; obtain ⟨a0, a1, a2, a3, a4, a5, p0, p1, p2, p3, p4, p5, d0, d1, e0, e1, hlt⟩ := HK.out; have hlt0 := Nat.lt_of_succ_lt hlt) | (go_at_call 163; (with_reducible refine (WD.out _).mono ?_); rintro e w3 ⟨ht, hb⟩; obtain ⟨k, x, y, z, a, f, p, n, rfl⟩ := tokRef_any ht; have HT := Lib.hid ht; clear ht; replace HK := Lib.hid (HK.out.below hb); replace HB0 := Lib.hid (HB0.out.trans (hb.mono HB0.out.size)); clear a0 a1 a2 a3 a4 a5 p0 p1 p2 p3 p4 p5 d0 d1 e0 e1 hlt hlt0 hb; obtain ⟨a0, a1, a2, a3, a4, a5, p0, p1, p2, p3, p4, p5, d0, d1, e0, e1, hlt⟩ := HK.out; have hlt0 := Nat.lt_of_succ_lt hlt; unfold tokV))
   exact tokr_done (V := w3) rfl HK.out HB0.out rfl rfl HT.out
 | some m =>
   obtain ⟨hm1, hm2, hm3, hm4⟩ := prefE_some hp
   have him : i <= m := by rw [hm1]; exact (wordE_bound l true l.length i (by omega) hi).1
   have hqe : q = (m : Int) - (i : Int) := by rw [<- hq]; unfold prefV; rw [hp]
   have q0 : decide (q < 0) = false := decide_eq_false (by omega)
   have WA : IntKind.i64.wrap ((i : Int) + q) = (m : Int) := by rw [show (i : Int) + q = (m : Int) by omega]; exact IntWalk.i64_in _ (by omega)
   have W1 : IntKind.i64.wrap ((m : Int) + 1) = (m : Int) + 1 := IntWalk.i64_in _ (by omega)
   have m1 : (i : Int) <= (m : Int) := by omega
   have m2 : (m : Int) <= (l.length : Int) := by omega
   obtain ⟨t, ht⟩ : ∃ t, cutF l i m = t := ⟨_, rfl⟩
   have hcut2 : List.take (m - i) (List.drop i l) = t := ht
   obtain ⟨E, K, hEK⟩ : ∃ E K, localG l (m + 1) = (E, K) := ⟨_, _, rfl⟩
   have LC : Hid (∀ u, Calls Tryz.prog 164 #[.string (B l), .int .i64 ((m : Int) + 1)] u fun e w' => e = .returned (.tuple #[.int .i64 (E : Int), .string (B K)]) /\ Below u.heap.size u w') := Lib.hid (fun u => by
     have h := refLocal10_l l (m + 1) u (by omega) hl
     rw [hEK] at h
     exact h)
   have HI : Hid (nameG l i = .inl ⟨2, t, K, [], (i : Nat), (E : Nat)⟩) := Lib.hid (by unfold nameG; rw [hp]; simp only; rw [ht, hEK])
   clear hq hp hm1 hm3 hm4 ht hEK hqe
   go_enter Tryz.func113, Tryz.ntmps113
   go_upto_block 0 with fail
   go_wp2_with (first | (go_at_call 162; (with_reducible refine (PR.out _).mono ?_); rintro e w2 ⟨rfl, hb⟩; replace HK := Lib.hid (HK.out.below hb); replace HB0 := Lib.hid (HB0.out.trans (hb.mono HB0.out.size)); clear a0 a1 a2 a3 a4 a5 p0 p1 p2 p3 p4 p5 d0 d1 e0 e1 hlt hlt0 hb; obtain ⟨a0, a1, a2, a3, a4, a5, p0, p1, p2, p3, p4, p5, d0, d1, e0, e1, hlt⟩ := HK.out; have hlt0 := Nat.lt_of_succ_lt hlt) | (go_at_call 164; (with_reducible refine (LC.out _).mono ?_); rintro e w3 ⟨rfl, hb⟩; replace HK := Lib.hid (HK.out.below hb); replace HB0 := Lib.hid (HB0.out.trans (hb.mono HB0.out.size)); clear a0 a1 a2 a3 a4 a5 p0 p1 p2 p3 p4 p5 d0 d1 e0 e1 hlt hlt0 hb; obtain ⟨a0, a1, a2, a3, a4, a5, p0, p1, p2, p3, p4, p5, d0, d1, e0, e1, hlt⟩ := HK.out; have hlt0 := Nat.lt_of_succ_lt hlt))
   exact tokr_done (V := w3) rfl HK.out HB0.out rfl rfl (by rw [HI.out]; exact tokRef_of (t := ⟨2, t, K, [], (i : Nat), (E : Nat)⟩) rfl rfl rfl rfl rfl)
end Go.Proofs.YtdhmpakhdhdebaaGreatDoor
