/-
  tesseraref10.Local: a contract. By an AI agent.
-/
import Derived.Test.YtdhmpakhdhdebaaGreatDoorZLexR7
import Derived.Test.YtdhmpakhdhdebaaGreatDoorZLexW15
namespace Go.Proofs.YtdhmpakhdhdebaaGreatDoor
open Go.Lib (hid)
open Go.RowKit
set_option maxRecDepth 100000
theorem bytes_take {P : Program} {w : World} {base : Nat} {e : TypeId} {v : Value} {n : Nat} {l : List UInt8} (src dst : TypeId) (hs : P.underlying src = some (.slice e)) (he : P.underlying e = some (.int .u8)) (hd : P.underlying dst = some .string)
  (h : w.ownsRow base e 1 v n (l.map U8)) : ∃ a cap, v = .slice a n cap /\ n <= cap /\ ∀ k, k <= n -> ∀ d, (convert src dst (.slice a k cap)).run P (w.drewN d) = .ok (.string (B (l.take k))) (w.drewN d) := by
 obtain ⟨a, cap, rfl, hcap, hx, ha⟩ := ownsRow_at h
 refine ⟨a, cap, rfl, hcap, fun k hk d => ?_⟩
 rw [List.length_map] at hx
 obtain ⟨t, ht⟩ : ∃ t, l.take k = t := ⟨_, rfl⟩
 have hkt : t.length = k := by rw [<- ht, List.length_take]; omega
 rw [ht]
 by_cases h0 : k = 0
 ·obtain rfl : t = [] := List.eq_nil_of_length_eq_zero (by omega)
  subst h0
  rcases h.2 with ⟨h1, h2⟩ | ⟨g, cap', cur, hv, _⟩
  ·cases h1
   exact run_convert_bytes_nil (w.drewN d) src e hs he 0 0 dst hd
  ·cases hv
   exact back_of_row (w.drewN d) src dst e g cap 0 [] rfl hs he hd (fun j hj => by simp at hj)
 ·refine conv_at (w.drewN d) src dst e a cap k t hkt (by omega) hs he hd (fun j hj => ?_)
  have hj2 : j < (l.map U8).length := by simp at hj ⊢; omega
  have := ha j hj2
  rw [show (t.map U8)[j] = (l.map U8)[j] by subst ht; simp]
  exact this
theorem refPiece_len {l : List UInt8} {j n : Nat} {t : List UInt8} {r : Int} (h : refPieceF l j = (t, n, r)) : t.length <= n := by
 unfold refPieceF at h
 split at h
 ·cases h; simp; omega
 ·split at h
  ·cases h; simp; omega
  ·split at h
   ·cases h; simp
   ·cases h; simp; omega
theorem locG_more {l : List UInt8} {a j n e kn : Nat} {S t : List UInt8} {r : Int} {fb : Bool} (hf : decide (j = a) = fb) (hp : pieceF l j = (t, n, r)) (hm : mayP (pieceF l j) fb = true) (hk : kn <= S.length) (HS : localG l a = locG l a j S e (S.take kn)) :
  (lastP (t, n, r) fb = true -> localG l a = locG l a (j + n) (S ++ t) (j + n) ((S ++ t).take (S.length + t.length))) /\ (lastP (t, n, r) fb = false -> localG l a = locG l a (j + n) (S ++ t) e ((S ++ t).take kn)) := by
 subst hf
 rw [HS, locG_go hm, hp]
 refine ⟨fun h => ?_, fun h => ?_⟩
 ·rw [h, if_pos rfl, if_pos rfl, List.take_of_length_le (by simp)]
 ·rw [h, if_neg (by simp), if_neg (by simp), List.take_append_of_le_length hk]
theorem locRet {l : List UInt8} {a e : Nat} {K : List UInt8} (h : localG l a = (e, K)) : Ending.returned (.tuple #[.int .i64 (e : Int), .string (B K)]) = .returned (.tuple #[.int .i64 ((localG l a).1 : Int), .string (B (localG l a).2)]) := by rw [h]
set_option maxHeartbeats 6400000 in
theorem refLocal10_l (l : List UInt8) (a : Nat) (w : World) (ha : a <= l.length) (hl : l.length <= 1048576) :
  Calls Tryz.prog 164 #[.string (B l), .int .i64 (a : Int)] w fun e w' => e = .returned (.tuple #[.int .i64 ((localG l a).1 : Int), .string (B (localG l a).2)]) /\ Below w.heap.size w w' := by
 obtain ⟨i0, hi, hz0, hz1, hz2⟩ := info_parts infoByte
 have k0 : (0 : Int) <= (a : Int) := by omega
 have PIE := hid (fun (j : Nat) (hj : j < l.length) (t : List UInt8) (n : Nat) (r : Int) (h : refPieceF l j = (t, n, r)) (w : World) => h ▸ refPieceAt_l l j w (by omega) hj)
 go_enter Tryz.func164, Tryz.ntmps164
 go_upto_block 0 with fail
 go_cut [6, 7, 8] from 14 to 62 (fun x6 x7 x8 wx => ∃ (S : List UInt8) (e kn : Nat), x7 = .int .i64 (e : Int) /\ x8 = .int .i64 (kn : Int) /\ kn <= S.length /\ S.length <= l.length /\ Hid (localG l a = (e, S.take kn)) /\ Hid (wx.ownsRow w.heap.size 5 1 x6 S.length (S.map U8)) /\ Hid (Below w.heap.size w wx))
 case first =>
  go_wp2_with fail
  go_loopw [6, 7, 8, 9] (fun o ev kv i wr => ∃ (j e kn : Nat) (S : List UInt8), ev = .int .i64 (e : Int) /\ kv = .int .i64 (kn : Int) /\ i = .int .i64 (j : Int) /\ a <= j /\ j <= l.length /\ kn <= S.length /\ S.length <= j /\ Hid (localG l a = locG l a j S e (S.take kn)) /\ wr.ownsRow w.heap.size 5 1 o S.length (S.map U8) /\ Below w.heap.size w wr) (fun _ _ _ i _ => l.length - (intOf i).toNat)
  case atStart => exact ⟨a, a, 0, [], rfl, rfl, rfl, Nat.le_refl _, ha, Nat.zero_le _, Nat.zero_le _, hid rfl, World.ownsRow_nil _ _ _ _, Below.refl _ _⟩
  case round =>
   obtain ⟨j, e, kn, S, rfl, rfl, rfl, haj, hj, hkn, hSj, HS, hown, hb⟩ := hrel
   have j0 : (0 : Int) <= (j : Int) := by omega
   by_cases hjl : j < l.length
   ·have c1 : decide ((j : Int) < (l.length : Int)) = true := decide_eq_true (by omega)
    have c2 : decide (j < l.length) = true := decide_eq_true hjl
    obtain ⟨t, n, r, hp⟩ : ∃ t n r, refPieceF l j = (t, n, r) := ⟨_, _, _, rfl⟩
    have P2 := hid (PIE.out j hjl t n r hp)
    by_cases hn : n = 0
    ·have e1 : ((n : Int) == 0) = true := by rw [hn]; rfl
     obtain ⟨fb, hf⟩ : ∃ fb, decide (j = a) = fb := ⟨_, rfl⟩
     have hmay := refPiece_may hp fb
     have HX : Hid (localG l a = (e, S.take kn)) := hid (HS.out.trans (locG_stop (by rw [hf]; exact hmay.1 (.inl hn))))
     clear hp hmay hn HS PIE hf
     go_wp2_with (first | (go_at_call 209; (with_reducible refine (P2.out _).mono ?_); rintro e w1 ⟨rfl, hx1⟩; unfold refPieceV))
     go_meet
     exact ⟨S, e, kn, rfl, rfl, hkn, by omega, HX, hid (ownsRow_below hown (hx1.trans (((Below.refl w1.heap.size w1).alloc (Nat.le_refl _) _).mono hx1.size))), hid (hb.trans ((hx1.trans (((Below.refl w1.heap.size w1).alloc (Nat.le_refl _) _).mono hx1.size)).mono hb.size))⟩
    have e1 : ((n : Int) == 0) = false := beq_eq_false_iff_ne.2 (by omega)
    by_cases hr : 0 <= r
    case neg =>
     have r0 : decide ((0 : Int) <= r) = false := decide_eq_false hr
     have r1 : decide (r < 0) = true := decide_eq_true (by omega)
     obtain ⟨fb, hf⟩ : ∃ fb, decide (j = a) = fb := ⟨_, rfl⟩
     have hmay := refPiece_may hp fb
     have HM2 := hmay.2 hn (.inl (by omega))
     have HX := hid ((locG_more hf HM2.2.1 HM2.1 hkn HS.out).1 (by unfold lastP; rw [(hmay.2 hn (.inl (by omega))).2.2 (by omega)]; rfl))
     have HT := hid (refPiece_len hp)
     have hnp : 0 < n := by omega
     have hjn : j + n <= l.length := by have := pieceF_bound HM2.1; rw [HM2.2.1] at this; exact this.2
     have hlx : S.length + t.length <= 140737488355328 := by have := HT.out; omega
     have HLT := hid hown.lt
     have W1 : IntKind.i64.wrap ((j : Int) + (n : Int)) = (j : Int) + (n : Int) := IntWalk.i64_in _ (by omega)
     have W2 : IntKind.i64.wrap ((j : Int) + (n : Int) - (n : Int)) = (j : Int) := by rw [show (j : Int) + (n : Int) - (n : Int) = (j : Int) by omega]; exact IntWalk.i64_in _ (by omega)
     have W3 : IntKind.i64.wrap (j : Int) = (j : Int) := IntWalk.i64_in _ (by omega)
     clear HM2
     clear hp hmay hn HS PIE hf
     go_wp2_with (first | (go_at_call 209; (with_reducible refine (P2.out _).mono ?_); rintro e w1 ⟨rfl, hx1⟩; unfold refPieceV) | (at_builtin; have h04 := hx1.trans (((Below.refl w1.heap.size w1).alloc (Nat.le_refl _) (.cells #[.int .i64 (j : Int), .int .i64 (n : Int), .string (B t), .int .i64 r] 253)).mono hx1.size); have q1 := new_cell (Below.refl _ (w1.alloc (.cells #[.int .i64 (j : Int), .int .i64 (n : Int), .string (B t), .int .i64 r] 253))) 1 _ rfl; have hown2 := ownsRow_below hown h04; have hb2 := hb.trans (h04.mono hb.size); refine Lib.wpList_append_own_string _ rfl (.tmp 38) (.tmp 40) 35 9 rfl w.heap.size 5 i0 Tryz.underlying35 Tryz.underlying9 hi hz0 hz1 hz2 _ _ _ rfl hown2 (B t) rfl ?c1 ?c2 hb2.size ?_))
     case c1 => have := B_size t; simp; unfold maxLen; omega
     case c2 => have := B_size t; simp; omega
     intro v' w9 hown9 hg9 _
     have q19 := cell_grown q1 hg9 (fun e => by have := (HLT.out _ e.symm).2; have := hx1.size; omega)
     have hown4 : w9.ownsRow w.heap.size 5 1 v' (S ++ t).length ((S ++ t).map U8) := by
      rw [strCells_l] at hown9
      simpa using hown9
     have hb4 := hb2.grown hg9 hb2.size (fun k hk => (hown2.lt k hk).1)
     obtain ⟨a9, cap9, rfl, hcap9, _, _⟩ := ownsRow_at hown4
     clear hown hown2 hown9 hg9 q1 hx1 hb hb2
     go_wp2_with fail
     go_roundw
     case rel => exact ⟨j + n, j + n, S.length + t.length, S ++ t, by go_num, by go_num, by go_num, by omega, hjn, by simp, by have := HT.out; simp; omega, HX, hown4, hb4⟩
     case measure => simp [intOf]; omega
    have r0 : decide ((0 : Int) <= r) = true := decide_eq_true hr
    have r1 : decide (r < 0) = false := decide_eq_false (by omega)
    by_cases hja : j = a
    ·have ej : ((j : Int) == (a : Int)) = true := beq_iff_eq.2 (by omega)
     have hf := decide_eq_true hja
     have hmay := refPiece_may hp true
     clear hja
     cases hs : standsB r true false with
     | false =>
      have MAY : Hid (∀ u, Calls Tryz.prog 210 #[.int .i64 r, .bool true, .bool false] u fun e w' => e = .returned (.bool false) /\ Below u.heap.size u w') := hid (fun u => by have h := refMay_l r true false u; rw [hs] at h; exact h)
      have HX : Hid (localG l a = (e, S.take kn)) := hid (HS.out.trans (locG_stop (by rw [hf]; exact hmay.1 (.inr ⟨hr, hs⟩))))
      clear hp hmay hn HS PIE hf
      go_wp2_with (first | (go_at_call 209; (with_reducible refine (P2.out _).mono ?_); rintro e w1 ⟨rfl, hx1⟩; unfold refPieceV) | (go_at_call 210; (with_reducible refine (MAY.out _).mono ?_); rintro e w4 ⟨rfl, hx4⟩; have q1 := new_cell hx4 1 _ rfl; have q2 := new_cell hx4 2 _ rfl; have q3 := new_cell hx4 3 _ rfl; have h04 := hx1.trans ((((Below.refl w1.heap.size w1).alloc (Nat.le_refl _) _).trans (hx4.mono (by simp))).mono hx1.size); have hown2 := ownsRow_below hown h04; have hb2 := hb.trans (h04.mono hb.size); clear hx4 h04))
      go_meet
      exact ⟨S, e, kn, rfl, rfl, hkn, by omega, HX, hid hown2, hid hb2⟩
     | true =>
      have MAY : Hid (∀ u, Calls Tryz.prog 210 #[.int .i64 r, .bool true, .bool false] u fun e w' => e = .returned (.bool true) /\ Below u.heap.size u w') := hid (fun u => by have h := refMay_l r true false u; rw [hs] at h; exact h)
      have HM2 := hmay.2 hn (.inr hs)
      have HX := hid ((locG_more hf HM2.2.1 HM2.1 hkn HS.out).1 (by unfold lastP; simp))
      have HT := hid (refPiece_len hp)
      have hnp : 0 < n := by omega
      have hjn : j + n <= l.length := by have := pieceF_bound HM2.1; rw [HM2.2.1] at this; exact this.2
      have hlx : S.length + t.length <= 140737488355328 := by have := HT.out; omega
      have HLT := hid hown.lt
      have W1 : IntKind.i64.wrap ((j : Int) + (n : Int)) = (j : Int) + (n : Int) := IntWalk.i64_in _ (by omega)
      have W2 : IntKind.i64.wrap ((j : Int) + (n : Int) - (n : Int)) = (j : Int) := by rw [show (j : Int) + (n : Int) - (n : Int) = (j : Int) by omega]; exact IntWalk.i64_in _ (by omega)
      have W3 : IntKind.i64.wrap (j : Int) = (j : Int) := IntWalk.i64_in _ (by omega)
      clear HM2
      clear hp hmay hn HS PIE hf
      go_wp2_with (first | (go_at_call 209; (with_reducible refine (P2.out _).mono ?_); rintro e w1 ⟨rfl, hx1⟩; unfold refPieceV) | (go_at_call 210; (with_reducible refine (MAY.out _).mono ?_); rintro e w4 ⟨rfl, hx4⟩; have q1 := new_cell hx4 1 _ rfl; have q2 := new_cell hx4 2 _ rfl; have q3 := new_cell hx4 3 _ rfl; have h04 := hx1.trans ((((Below.refl w1.heap.size w1).alloc (Nat.le_refl _) _).trans (hx4.mono (by simp))).mono hx1.size); have hown2 := ownsRow_below hown h04; have hb2 := hb.trans (h04.mono hb.size); clear hx4 h04) | (at_builtin; refine Lib.wpList_append_own_string _ rfl (.tmp 38) (.tmp 40) 35 9 rfl w.heap.size 5 i0 Tryz.underlying35 Tryz.underlying9 hi hz0 hz1 hz2 _ _ _ rfl hown2 (B t) rfl ?c1 ?c2 hb2.size ?_))
      case c1 => have := B_size t; simp; unfold maxLen; omega
      case c2 => have := B_size t; simp; omega
      intro v' w9 hown9 hg9 _
      have q19 := cell_grown q1 hg9 (fun e => by have := (HLT.out _ e.symm).2; have := hx1.size; omega)
      have hown4 : w9.ownsRow w.heap.size 5 1 v' (S ++ t).length ((S ++ t).map U8) := by
       rw [strCells_l] at hown9
       simpa using hown9
      have hb4 := hb2.grown hg9 hb2.size (fun k hk => (hown2.lt k hk).1)
      obtain ⟨a9, cap9, rfl, hcap9, _, _⟩ := ownsRow_at hown4
      clear hown hown2 hown9 hg9 q1 hx1 hb hb2 q2 q3
      go_wp2_with fail
      go_roundw
      case rel => exact ⟨j + n, j + n, S.length + t.length, S ++ t, by go_num, by go_num, by go_num, by omega, hjn, by simp, by have := HT.out; simp; omega, HX, hown4, hb4⟩
      case measure => simp [intOf]; omega
    ·have ej : ((j : Int) == (a : Int)) = false := beq_eq_false_iff_ne.2 (by omega)
     have hf := decide_eq_false hja
     have hmay := refPiece_may hp false
     clear hja
     cases hs : standsB r false false with
     | false =>
      have MAY : Hid (∀ u, Calls Tryz.prog 210 #[.int .i64 r, .bool false, .bool false] u fun e w' => e = .returned (.bool false) /\ Below u.heap.size u w') := hid (fun u => by have h := refMay_l r false false u; rw [hs] at h; exact h)
      have HX : Hid (localG l a = (e, S.take kn)) := hid (HS.out.trans (locG_stop (by rw [hf]; exact hmay.1 (.inr ⟨hr, hs⟩))))
      clear hp hmay hn HS PIE hf
      go_wp2_with (first | (go_at_call 209; (with_reducible refine (P2.out _).mono ?_); rintro e w1 ⟨rfl, hx1⟩; unfold refPieceV) | (go_at_call 210; (with_reducible refine (MAY.out _).mono ?_); rintro e w4 ⟨rfl, hx4⟩; have q1 := new_cell hx4 1 _ rfl; have q2 := new_cell hx4 2 _ rfl; have q3 := new_cell hx4 3 _ rfl; have h04 := hx1.trans ((((Below.refl w1.heap.size w1).alloc (Nat.le_refl _) _).trans (hx4.mono (by simp))).mono hx1.size); have hown2 := ownsRow_below hown h04; have hb2 := hb.trans (h04.mono hb.size); clear hx4 h04))
      go_meet
      exact ⟨S, e, kn, rfl, rfl, hkn, by omega, HX, hid hown2, hid hb2⟩
     | true =>
      have MAY : Hid (∀ u, Calls Tryz.prog 210 #[.int .i64 r, .bool false, .bool false] u fun e w' => e = .returned (.bool true) /\ Below u.heap.size u w') := hid (fun u => by have h := refMay_l r false false u; rw [hs] at h; exact h)
      cases ht : standsB r false true with
      | true =>
       have MAY2 : Hid (∀ u, Calls Tryz.prog 210 #[.int .i64 r, .bool false, .bool true] u fun e w' => e = .returned (.bool true) /\ Below u.heap.size u w') := hid (fun u => by have h := refMay_l r false true u; rw [ht] at h; exact h)
       have HM2 := hmay.2 hn (.inr hs)
       have HX := hid ((locG_more hf HM2.2.1 HM2.1 hkn HS.out).1 (by unfold lastP; rw [ht]; simp))
       have HT := hid (refPiece_len hp)
       have hnp : 0 < n := by omega
       have hjn : j + n <= l.length := by have := pieceF_bound HM2.1; rw [HM2.2.1] at this; exact this.2
       have hlx : S.length + t.length <= 140737488355328 := by have := HT.out; omega
       have HLT := hid hown.lt
       have W1 : IntKind.i64.wrap ((j : Int) + (n : Int)) = (j : Int) + (n : Int) := IntWalk.i64_in _ (by omega)
       have W2 : IntKind.i64.wrap ((j : Int) + (n : Int) - (n : Int)) = (j : Int) := by rw [show (j : Int) + (n : Int) - (n : Int) = (j : Int) by omega]; exact IntWalk.i64_in _ (by omega)
       have W3 : IntKind.i64.wrap (j : Int) = (j : Int) := IntWalk.i64_in _ (by omega)
       clear HM2
       clear hp hmay hn HS PIE hf
       go_wp2_with (first | (go_at_call 209; (with_reducible refine (P2.out _).mono ?_); rintro e w1 ⟨rfl, hx1⟩; unfold refPieceV) | (go_at_call 210; (with_reducible refine (MAY.out _).mono ?_); rintro e w4 ⟨rfl, hx4⟩; have q1 := new_cell hx4 1 _ rfl; have q2 := new_cell hx4 2 _ rfl; have q3 := new_cell hx4 3 _ rfl; have h04 := hx1.trans ((((Below.refl w1.heap.size w1).alloc (Nat.le_refl _) _).trans (hx4.mono (by simp))).mono hx1.size); have hown2 := ownsRow_below hown h04; have hb2 := hb.trans (h04.mono hb.size); clear hx4 h04) | (at_builtin; refine Lib.wpList_append_own_string _ rfl (.tmp 38) (.tmp 40) 35 9 rfl w.heap.size 5 i0 Tryz.underlying35 Tryz.underlying9 hi hz0 hz1 hz2 _ _ _ rfl hown2 (B t) rfl ?c1 ?c2 hb2.size ?_))
       case c1 => have := B_size t; simp; unfold maxLen; omega
       case c2 => have := B_size t; simp; omega
       intro v' w9 hown9 hg9 _
       have q19 := cell_grown q1 hg9 (fun e => by have := (HLT.out _ e.symm).2; have := hx1.size; omega)
       have hown4 : w9.ownsRow w.heap.size 5 1 v' (S ++ t).length ((S ++ t).map U8) := by
        rw [strCells_l] at hown9
        simpa using hown9
       have hb4 := hb2.grown hg9 hb2.size (fun k hk => (hown2.lt k hk).1)
       obtain ⟨a9, cap9, rfl, hcap9, _, _⟩ := ownsRow_at hown4
       clear hown hown2 hown9 hg9 q1 hx1 hb hb2 q2 q3
       go_wp2_with (go_at_call 210; (with_reducible refine (MAY2.out _).mono ?_); rintro e w5 ⟨rfl, hx5⟩; replace hown4 := ownsRow_below hown4 hx5; replace hb4 := hb4.trans (hx5.mono hb4.size))
       go_roundw
       case rel => exact ⟨j + n, j + n, S.length + t.length, S ++ t, by go_num, by go_num, by go_num, by omega, hjn, by simp, by have := HT.out; simp; omega, HX, by simpa using hown4, hb4⟩
       case measure => simp [intOf]; omega
      | false =>
       have MAY2 : Hid (∀ u, Calls Tryz.prog 210 #[.int .i64 r, .bool false, .bool true] u fun e w' => e = .returned (.bool false) /\ Below u.heap.size u w') := hid (fun u => by have h := refMay_l r false true u; rw [ht] at h; exact h)
       have HM2 := hmay.2 hn (.inr hs)
       have HX := hid ((locG_more hf HM2.2.1 HM2.1 hkn HS.out).2 (by unfold lastP; rw [ht]; simp; omega))
       have HT := hid (refPiece_len hp)
       have hnp : 0 < n := by omega
       have hjn : j + n <= l.length := by have := pieceF_bound HM2.1; rw [HM2.2.1] at this; exact this.2
       have hlx : S.length + t.length <= 140737488355328 := by have := HT.out; omega
       have HLT := hid hown.lt
       have W1 : IntKind.i64.wrap ((j : Int) + (n : Int)) = (j : Int) + (n : Int) := IntWalk.i64_in _ (by omega)
       have W2 : IntKind.i64.wrap ((j : Int) + (n : Int) - (n : Int)) = (j : Int) := by rw [show (j : Int) + (n : Int) - (n : Int) = (j : Int) by omega]; exact IntWalk.i64_in _ (by omega)
       have W3 : IntKind.i64.wrap (j : Int) = (j : Int) := IntWalk.i64_in _ (by omega)
       clear HM2
       clear hp hmay hn HS PIE hf
       go_wp2_with (first | (go_at_call 209; (with_reducible refine (P2.out _).mono ?_); rintro e w1 ⟨rfl, hx1⟩; unfold refPieceV) | (go_at_call 210; (with_reducible refine (MAY.out _).mono ?_); rintro e w4 ⟨rfl, hx4⟩; have q1 := new_cell hx4 1 _ rfl; have q2 := new_cell hx4 2 _ rfl; have q3 := new_cell hx4 3 _ rfl; have h04 := hx1.trans ((((Below.refl w1.heap.size w1).alloc (Nat.le_refl _) _).trans (hx4.mono (by simp))).mono hx1.size); have hown2 := ownsRow_below hown h04; have hb2 := hb.trans (h04.mono hb.size); clear hx4 h04) | (at_builtin; refine Lib.wpList_append_own_string _ rfl (.tmp 38) (.tmp 40) 35 9 rfl w.heap.size 5 i0 Tryz.underlying35 Tryz.underlying9 hi hz0 hz1 hz2 _ _ _ rfl hown2 (B t) rfl ?c1 ?c2 hb2.size ?_))
       case c1 => have := B_size t; simp; unfold maxLen; omega
       case c2 => have := B_size t; simp; omega
       intro v' w9 hown9 hg9 _
       have q19 := cell_grown q1 hg9 (fun e => by have := (HLT.out _ e.symm).2; have := hx1.size; omega)
       have hown4 : w9.ownsRow w.heap.size 5 1 v' (S ++ t).length ((S ++ t).map U8) := by
        rw [strCells_l] at hown9
        simpa using hown9
       have hb4 := hb2.grown hg9 hb2.size (fun k hk => (hown2.lt k hk).1)
       obtain ⟨a9, cap9, rfl, hcap9, _, _⟩ := ownsRow_at hown4
       clear hown hown2 hown9 hg9 q1 hx1 hb hb2 q2 q3
       go_wp2_with (go_at_call 210; (with_reducible refine (MAY2.out _).mono ?_); rintro e w5 ⟨rfl, hx5⟩; replace hown4 := ownsRow_below hown4 hx5; replace hb4 := hb4.trans (hx5.mono hb4.size))
       go_roundw
       case rel => exact ⟨j + n, e, kn, S ++ t, rfl, rfl, by go_num, by omega, hjn, by simp; omega, by have := HT.out; simp; omega, HX, by simpa using hown4, hb4⟩
       case measure => simp [intOf]; omega
   ·have c1 : decide ((j : Int) < (l.length : Int)) = false := decide_eq_false (by omega)
    have c2 : decide (j < l.length) = false := decide_eq_false hjl
    have HX : Hid (localG l a = (e, S.take kn)) := hid (HS.out.trans (locG_stop (Bool.eq_false_iff.2 (fun h => hjl (mayP_in h)))))
    clear HS PIE
    go_wp2_with fail
    go_meet
    exact ⟨S, e, kn, rfl, rfl, hkn, by omega, HX, hid hown, hid hb⟩
 case rest =>
  obtain ⟨S, e, kn, rfl, rfl, hkn, hSl, HX, HO, HB⟩ := hcut
  obtain ⟨a6, cap6, rfl, hc6, hcv⟩ := bytes_take (P := Tryz.prog) 35 9 Tryz.underlying35 Tryz.underlying5 Tryz.underlying9 HO.out
  have hcv2 := hcv kn hkn
  have n0 : (0 : Int) <= (kn : Int) := by omega
  have n1 : (kn : Int) <= (cap6 : Int) := by omega
  have n2 : kn <= cap6 := by omega
  clear hcv PIE
  go_wp2_with fail
  go_quiet (fail)
  go_wp2_with fail
  go_ret2
  exact ⟨locRet HX.out, below_drewN_h HB.out _⟩
end Go.Proofs.YtdhmpakhdhdebaaGreatDoor
namespace Go.Proofs.YtdhmpakhdhdebaaGreatDoor
open Go.Lib (hid)
open Go.RowKit
set_option maxRecDepth 100000
theorem tokRef_any {e : Ending} {r : TokR} (h : TokRef e r) : ∃ k x y z a f p n, e = .returned (.tuple #[tokV k x y z a f, .agg #[.int .i64 p, .int .i64 n]]) := by
 cases r with
 | inl t => exact ⟨_, _, _, _, _, _, _, _, h⟩
 | inr p => exact ⟨_, _, _, _, _, _, _, _, h⟩
set_option maxHeartbeats 1600000 in
theorem refName10_l (l : List UInt8) (i : Nat) (w : World) (hi : i <= l.length) (hl : l.length <= 1048576) :
  Calls Tryz.prog 113 #[.string (B l), .int .i64 (i : Int)] w fun e w' => TokRef e (nameG l i) /\ Below w.heap.size w w' := by
 obtain ⟨W, hW⟩ : ∃ W, (w.alloc (.cells #[.int .i64 0, .string ⟨#[]⟩, .string ⟨#[]⟩, .string ⟨#[]⟩, .int .i64 0, .int .i64 0] 50)).alloc (.cells #[.int .i64 0, .int .i64 0] 64) = W := ⟨_, rfl⟩
 have HB0 : Hid (Below w.heap.size w W) := hid (by rw [<- hW]; exact ((Below.refl _ _).alloc (Nat.le_refl _) _).alloc (by simp) _)
 have HK : Hid (TkAt W w.heap.size) := hid (by rw [<- hW]; exact tkr_new w)
 have k0 : (0 : Int) <= (i : Int) := by omega
 have k1 : (i : Int) <= (l.length : Int) := by omega
 obtain ⟨a0, a1, a2, a3, a4, a5, p0, p1, p2, p3, p4, p5, d0, d1, e0, e1, hlt⟩ := HK.out
 have hlt0 := Nat.lt_of_succ_lt hlt
 obtain ⟨q, hq⟩ : ∃ q, prefV l i = q := ⟨_, rfl⟩
 have PR := hid (fun (u : World) => hq ▸ refPref10_l l i u hi hl)
 cases hp : prefE l i with
 | none =>
  have q0 : decide (q < 0) = true := by rw [<- hq]; unfold prefV; rw [hp]; rfl
  have WD : Hid (∀ u, Calls Tryz.prog 163 #[.string (B l), .int .i64 (i : Int)] u fun e w' => TokRef e (nameG l i) /\ Below u.heap.size u w') := hid (fun u => by unfold nameG; rw [hp]; exact refWord10_l l i u hi hl)
  clear hq hp
  go_enter Tryz.func113, Tryz.ntmps113
  go_upto_block 0 with fail
  go_wp2_with (first | (go_at_call 162; (with_reducible refine (PR.out _).mono ?_); rintro e w2 ⟨rfl, hb⟩; replace HK := hid (HK.out.below hb); replace HB0 := hid (HB0.out.trans (hb.mono HB0.out.size)); clear a0 a1 a2 a3 a4 a5 p0 p1 p2 p3 p4 p5 d0 d1 e0 e1 hlt hlt0 hb; obtain ⟨a0, a1, a2, a3, a4, a5, p0, p1, p2, p3, p4, p5, d0, d1, e0, e1, hlt⟩ := HK.out; have hlt0 := Nat.lt_of_succ_lt hlt) | (go_at_call 163; (with_reducible refine (WD.out _).mono ?_); rintro e w3 ⟨ht, hb⟩; obtain ⟨k, x, y, z, a, f, p, n, rfl⟩ := tokRef_any ht; have HT := hid ht; clear ht; replace HK := hid (HK.out.below hb); replace HB0 := hid (HB0.out.trans (hb.mono HB0.out.size)); clear a0 a1 a2 a3 a4 a5 p0 p1 p2 p3 p4 p5 d0 d1 e0 e1 hlt hlt0 hb; obtain ⟨a0, a1, a2, a3, a4, a5, p0, p1, p2, p3, p4, p5, d0, d1, e0, e1, hlt⟩ := HK.out; have hlt0 := Nat.lt_of_succ_lt hlt; unfold tokV))
  exact tokr_done (V := w3) rfl HK.out HB0.out rfl rfl HT.out
 | some m =>
  obtain ⟨hm1, hm2, hm3, hm4⟩ := prefE_some hp
  have him : i <= m := by rw [hm1]; exact (wordE_bound l true l.length i (by omega) hi).1
  have hqe : q = (m : Int) - (i : Int) := by rw [<- hq]; unfold prefV; rw [hp]
  have q0 : decide (q < 0) = false := decide_eq_false (by omega)
  have WA : IntKind.i64.wrap ((i : Int) + q) = (m : Int) := by rw [show (i : Int) + q = (m : Int) by omega]; exact IntWalk.i64_in _ (by omega)
  have W1 : IntKind.i64.wrap ((m : Int) + 1) = (m : Int) + 1 := IntWalk.i64_in _ (by omega)
  have m1 : (i : Int) <= (m : Int) := by omega
  have m2 : (m : Int) <= (l.length : Int) := by omega
  obtain ⟨t, ht⟩ : ∃ t, cutF l i m = t := ⟨_, rfl⟩
  have hcut2 : List.take (m - i) (List.drop i l) = t := ht
  obtain ⟨E, K, hEK⟩ : ∃ E K, localG l (m + 1) = (E, K) := ⟨_, _, rfl⟩
  have LC : Hid (∀ u, Calls Tryz.prog 164 #[.string (B l), .int .i64 ((m : Int) + 1)] u fun e w' => e = .returned (.tuple #[.int .i64 (E : Int), .string (B K)]) /\ Below u.heap.size u w') := hid (fun u => by
   have h := refLocal10_l l (m + 1) u (by omega) hl
   rw [hEK] at h
   exact h)
  have HI : Hid (nameG l i = .inl ⟨2, t, K, [], (i : Nat), (E : Nat)⟩) := hid (by unfold nameG; rw [hp]; simp only; rw [ht, hEK])
  clear hq hp hm1 hm3 hm4 ht hEK hqe
  go_enter Tryz.func113, Tryz.ntmps113
  go_upto_block 0 with fail
  go_wp2_with (first | (go_at_call 162; (with_reducible refine (PR.out _).mono ?_); rintro e w2 ⟨rfl, hb⟩; replace HK := hid (HK.out.below hb); replace HB0 := hid (HB0.out.trans (hb.mono HB0.out.size)); clear a0 a1 a2 a3 a4 a5 p0 p1 p2 p3 p4 p5 d0 d1 e0 e1 hlt hlt0 hb; obtain ⟨a0, a1, a2, a3, a4, a5, p0, p1, p2, p3, p4, p5, d0, d1, e0, e1, hlt⟩ := HK.out; have hlt0 := Nat.lt_of_succ_lt hlt) | (go_at_call 164; (with_reducible refine (LC.out _).mono ?_); rintro e w3 ⟨rfl, hb⟩; replace HK := hid (HK.out.below hb); replace HB0 := hid (HB0.out.trans (hb.mono HB0.out.size)); clear a0 a1 a2 a3 a4 a5 p0 p1 p2 p3 p4 p5 d0 d1 e0 e1 hlt hlt0 hb; obtain ⟨a0, a1, a2, a3, a4, a5, p0, p1, p2, p3, p4, p5, d0, d1, e0, e1, hlt⟩ := HK.out; have hlt0 := Nat.lt_of_succ_lt hlt))
  exact tokr_done (V := w3) rfl HK.out HB0.out rfl rfl (by rw [HI.out]; exact tokRef_of (t := ⟨2, t, K, [], (i : Nat), (E : Nat)⟩) rfl rfl rfl rfl rfl)
end Go.Proofs.YtdhmpakhdhdebaaGreatDoor
namespace Go.Proofs.YtdhmpakhdhdebaaGreatDoor
open Go.Lib (hid)
open Go.RowKit
set_option maxRecDepth 100000
theorem sg_at (u : World) (k : Nat) (hk : k < 9) : (Instr.index 9 (.string { data := #[46, 59, 44, 91, 93, 40, 41, 123, 125] }) (.int .i64 (k : Int))).run Tryz.prog u = .ok (.int .u8 ((signsW.getD k 0).toNat : Int)) u :=
 match k, hk with
 | 0, _ => by kernel_rfl
 | 1, _ => by kernel_rfl
 | 2, _ => by kernel_rfl
 | 3, _ => by kernel_rfl
 | 4, _ => by kernel_rfl
 | 5, _ => by kernel_rfl
 | 6, _ => by kernel_rfl
 | 7, _ => by kernel_rfl
 | 8, _ => by kernel_rfl
theorem sg_cut (k : Nat) (hk : k < 9) : ({ data := #[46, 59, 44, 91, 93, 40, 41, 123, 125] } : ByteArray).extract k (k + 1) = B [signsW.getD k 0] :=
 match k, hk with
 | 0, _ => by kernel_rfl
 | 1, _ => by kernel_rfl
 | 2, _ => by kernel_rfl
 | 3, _ => by kernel_rfl
 | 4, _ => by kernel_rfl
 | 5, _ => by kernel_rfl
 | 6, _ => by kernel_rfl
 | 7, _ => by kernel_rfl
 | 8, _ => by kernel_rfl
theorem sg_mem {k : Nat} (hk : k < 9) : signsW.contains (signsW.getD k 0) = true := by
 have h : k = 0 \/ k = 1 \/ k = 2 \/ k = 3 \/ k = 4 \/ k = 5 \/ k = 6 \/ k = 7 \/ k = 8 := by omega
 rcases h with rfl | rfl | rfl | rfl | rfl | rfl | rfl | rfl | rfl <;> rfl
theorem sg_all {c : UInt8} (h : ∀ k, k < 9 -> signsW.getD k 0 ≠ c) : signsW.contains c = false := by
 cases hc : signsW.contains c with
 | false => rfl
 | true =>
  obtain ⟨k, hk, he⟩ := List.getElem_of_mem (List.contains_iff_mem.1 hc)
  exact absurd (by rw [<- he]; simp [List.getD, hk]) (h k (by simpa [signsW] using hk))
theorem numG_len (l : List UInt8) (i : Nat) : (numG l i).2.length <= 7 := by
 have h1 : doubleN.length <= 7 := by decide
 have h2 : decimalN.length <= 7 := by decide
 have h3 : integerN.length <= 7 := by decide
 unfold numG
 simp only
 split
 ·exact h1
 ·split
  ·exact h1
  ·split
   ·exact h2
   ·split
    ·exact h3
    ·exact Nat.zero_le _
set_option maxHeartbeats 6400000 in
theorem refToken10_l (l : List UInt8) (i : Nat) (w : World) (hi : i < l.length) (hl : l.length <= 1048576) :
  Calls Tryz.prog 76 #[.string (B l), .int .i64 (i : Int)] w fun e w' => TokRef e (tokG l i) /\ Below w.heap.size w w' := by
 obtain ⟨W, hW⟩ : ∃ W, (w.alloc (.cells #[.int .i64 0, .string ⟨#[]⟩, .string ⟨#[]⟩, .string ⟨#[]⟩, .int .i64 0, .int .i64 0] 50)).alloc (.cells #[.int .i64 0, .int .i64 0] 64) = W := ⟨_, rfl⟩
 have HB0 : Hid (Below w.heap.size w W) := hid (by rw [<- hW]; exact ((Below.refl _ _).alloc (Nat.le_refl _) _).alloc (by simp) _)
 have HK : Hid (TkAt W w.heap.size) := hid (by rw [<- hW]; exact tkr_new w)
 have k0 : (0 : Int) <= (i : Int) := by omega
 have k1 : (i : Int) <= (l.length : Int) := by omega
 obtain ⟨a0, a1, a2, a3, a4, a5, p0, p1, p2, p3, p4, p5, d0, d1, e0, e1, hlt⟩ := HK.out
 have hlt0 := Nat.lt_of_succ_lt hlt
 have i1 : (i : Int) < (l.length : Int) := by omega
 obtain ⟨c, hc⟩ : ∃ c, l[i] = c := ⟨_, rfl⟩
 have hg : l.getD i 0 = c := by simp [List.getD, hi, hc]
 obtain ⟨v, n0, hq⟩ : ∃ v n0, nextAt l (i : Int) = (v, n0) := ⟨_, _, rfl⟩
 obtain ⟨N, T, hN⟩ : ∃ N T, numG l i = (N, T) := ⟨_, _, rfl⟩
 have N2 := hid (fun (u : World) => hq ▸ refNext_l l i u (by omega) (by omega))
 have NU : Hid (∀ u, Calls Tryz.prog 110 #[.string (B l), .int .i64 (i : Int)] u fun e w' => e = .returned (.tuple #[.int .i64 (N : Nat), .string (B T)]) /\ w' = u) := hid (fun u => by have h := refNum10_l l i u hi (by omega); rw [hN] at h; exact h)
 have BA := hid refBase_any
 have HT0 : Hid (tokG l i = if c = 60 then iriG l i
  else if baseB v = true \/ c = 58 then nameG l i
  else if c = 95 then labelG l i
  else if c = 34 \/ c = 39 then quoteG l i
  else if c = 64 then atG l i
  else if i < N then .inl ⟨6, cutF l i N, [], xsdW ++ T, (i : Nat), (N : Nat)⟩
  else if c = 94 /\ i + 1 < l.length /\ l.getD (i + 1) 0 = 94 then .inl ⟨8, [94, 94], [], [], (i : Nat), (i + 2 : Nat)⟩
  else if signsW.contains c = true then .inl ⟨8, [c], [], [], (i : Nat), (i + 1 : Nat)⟩
  else .inr (i, 100)) := hid (by unfold tokG; rw [hg, hq, hN])
 have hTl : T.length <= 7 := by have := numG_len l i; rw [hN] at this; exact this
 have HNL : Hid (i < N -> N <= l.length) := hid (fun h => by
  have h2 := (num_eq l i).1
  by_cases h3 : numD l i < (numP l i).1
  ·have h4 := numP_le hi
   rw [h2 h3, hN] at h4
   exact h4
  ·have h4 := (num_eq l i).2 h3
   rw [hN] at h4
   have h5 : N = i := (Prod.mk.inj h4).1
   omega)
 clear hg hq hN
 go_enter Tryz.func76, Tryz.ntmps76
 go_upto_block 0 with fail
 go_upto_region 4 with (first | (go_at_call 64; (with_reducible refine (N2.out _).mono ?_); rintro e w1 ⟨rfl, hb⟩; replace HK := hid (HK.out.below hb); replace HB0 := hid (HB0.out.trans (hb.mono HB0.out.size)); clear a0 a1 a2 a3 a4 a5 p0 p1 p2 p3 p4 p5 d0 d1 e0 e1 hlt hlt0 hb; obtain ⟨a0, a1, a2, a3, a4, a5, p0, p1, p2, p3, p4, p5, d0, d1, e0, e1, hlt⟩ := HK.out; have hlt0 := Nat.lt_of_succ_lt hlt; unfold pairI) | (go_at_call 110; (with_reducible refine (NU.out _).mono ?_); rintro e w2 ⟨rfl, rfl⟩))
 by_cases h60 : c = 60
 ·have z60 : ((c.toNat : Int) == 60) = true := byte_eq (d := 60) h60
  clear HNL
  have PA : Hid (∀ u, Calls Tryz.prog 111 #[.string (B l), .int .i64 (i : Int)] u fun e w' => TokRef e (tokG l i) /\ Below u.heap.size u w') := hid (fun u => by rw [HT0.out, if_pos h60]; exact refIri10_l l i u hi hl)
  clear HT0
  go_wp2_with (first | (go_at_call 111; (with_reducible refine (PA.out _).mono ?_); rintro e w3 ⟨ht, hb⟩; obtain ⟨k, x, y, z, a, f, p, n, rfl⟩ := tokRef_any ht; have HT := hid ht; clear ht; replace HK := hid (HK.out.below hb); replace HB0 := hid (HB0.out.trans (hb.mono HB0.out.size)); clear a0 a1 a2 a3 a4 a5 p0 p1 p2 p3 p4 p5 d0 d1 e0 e1 hlt hlt0 hb; obtain ⟨a0, a1, a2, a3, a4, a5, p0, p1, p2, p3, p4, p5, d0, d1, e0, e1, hlt⟩ := HK.out; have hlt0 := Nat.lt_of_succ_lt hlt; unfold tokV))
  exact tokr_done (V := w3) rfl HK.out HB0.out rfl rfl HT.out
 have z60 : ((c.toNat : Int) == 60) = false := byte_ne (d := 60) h60
 replace HT0 := hid (HT0.out.trans (if_neg h60))
 clear h60
 cases hb1 : baseB v with
 | true =>
  have PA : Hid (∀ u, Calls Tryz.prog 113 #[.string (B l), .int .i64 (i : Int)] u fun e w' => TokRef e (tokG l i) /\ Below u.heap.size u w') := hid (fun u => by rw [HT0.out, if_pos (.inl hb1)]; exact refName10_l l i u (by omega) hl)
  clear HT0
  go_wp2_with (first | (go_at_call 112; (with_reducible refine (BA.out v _).mono ?_); rintro e w2 ⟨rfl, hb⟩; replace HK := hid (HK.out.below hb); replace HB0 := hid (HB0.out.trans (hb.mono HB0.out.size)); clear a0 a1 a2 a3 a4 a5 p0 p1 p2 p3 p4 p5 d0 d1 e0 e1 hlt hlt0 hb; obtain ⟨a0, a1, a2, a3, a4, a5, p0, p1, p2, p3, p4, p5, d0, d1, e0, e1, hlt⟩ := HK.out; have hlt0 := Nat.lt_of_succ_lt hlt) | (go_at_call 113; (with_reducible refine (PA.out _).mono ?_); rintro e w3 ⟨ht, hb⟩; obtain ⟨k, x, y, z, a, f, p, n, rfl⟩ := tokRef_any ht; have HT := hid ht; clear ht; replace HK := hid (HK.out.below hb); replace HB0 := hid (HB0.out.trans (hb.mono HB0.out.size)); clear a0 a1 a2 a3 a4 a5 p0 p1 p2 p3 p4 p5 d0 d1 e0 e1 hlt hlt0 hb; obtain ⟨a0, a1, a2, a3, a4, a5, p0, p1, p2, p3, p4, p5, d0, d1, e0, e1, hlt⟩ := HK.out; have hlt0 := Nat.lt_of_succ_lt hlt; unfold tokV))
  exact tokr_done (V := w3) rfl HK.out HB0.out rfl rfl HT.out
 | false =>
 by_cases h58 : c = 58
 ·have z58 : ((c.toNat : Int) == 58) = true := byte_eq (d := 58) h58
  have PA : Hid (∀ u, Calls Tryz.prog 113 #[.string (B l), .int .i64 (i : Int)] u fun e w' => TokRef e (tokG l i) /\ Below u.heap.size u w') := hid (fun u => by rw [HT0.out, if_pos (.inr h58)]; exact refName10_l l i u (by omega) hl)
  clear HT0
  go_wp2_with (first | (go_at_call 112; (with_reducible refine (BA.out v _).mono ?_); rintro e w2 ⟨rfl, hb⟩; replace HK := hid (HK.out.below hb); replace HB0 := hid (HB0.out.trans (hb.mono HB0.out.size)); clear a0 a1 a2 a3 a4 a5 p0 p1 p2 p3 p4 p5 d0 d1 e0 e1 hlt hlt0 hb; obtain ⟨a0, a1, a2, a3, a4, a5, p0, p1, p2, p3, p4, p5, d0, d1, e0, e1, hlt⟩ := HK.out; have hlt0 := Nat.lt_of_succ_lt hlt) | (go_at_call 113; (with_reducible refine (PA.out _).mono ?_); rintro e w3 ⟨ht, hb⟩; obtain ⟨k, x, y, z, a, f, p, n, rfl⟩ := tokRef_any ht; have HT := hid ht; clear ht; replace HK := hid (HK.out.below hb); replace HB0 := hid (HB0.out.trans (hb.mono HB0.out.size)); clear a0 a1 a2 a3 a4 a5 p0 p1 p2 p3 p4 p5 d0 d1 e0 e1 hlt hlt0 hb; obtain ⟨a0, a1, a2, a3, a4, a5, p0, p1, p2, p3, p4, p5, d0, d1, e0, e1, hlt⟩ := HK.out; have hlt0 := Nat.lt_of_succ_lt hlt; unfold tokV))
  exact tokr_done (V := w3) rfl HK.out HB0.out rfl rfl HT.out
 have z58 : ((c.toNat : Int) == 58) = false := byte_ne (d := 58) h58
 replace HT0 := hid (HT0.out.trans (if_neg (by rintro (h | h); rw [hb1] at h; cases h; exact h58 h)))
 clear h58
 by_cases h95 : c = 95
 ·have z95 : ((c.toNat : Int) == 95) = true := byte_eq (d := 95) h95
  have PA : Hid (∀ u, Calls Tryz.prog 114 #[.string (B l), .int .i64 (i : Int)] u fun e w' => TokRef e (tokG l i) /\ Below u.heap.size u w') := hid (fun u => by rw [HT0.out, if_pos h95]; exact refLabel10_l l i u hi hl)
  clear HT0
  go_wp2_with (first | (go_at_call 112; (with_reducible refine (BA.out v _).mono ?_); rintro e w2 ⟨rfl, hb⟩; replace HK := hid (HK.out.below hb); replace HB0 := hid (HB0.out.trans (hb.mono HB0.out.size)); clear a0 a1 a2 a3 a4 a5 p0 p1 p2 p3 p4 p5 d0 d1 e0 e1 hlt hlt0 hb; obtain ⟨a0, a1, a2, a3, a4, a5, p0, p1, p2, p3, p4, p5, d0, d1, e0, e1, hlt⟩ := HK.out; have hlt0 := Nat.lt_of_succ_lt hlt) | (go_at_call 114; (with_reducible refine (PA.out _).mono ?_); rintro e w3 ⟨ht, hb⟩; obtain ⟨k, x, y, z, a, f, p, n, rfl⟩ := tokRef_any ht; have HT := hid ht; clear ht; replace HK := hid (HK.out.below hb); replace HB0 := hid (HB0.out.trans (hb.mono HB0.out.size)); clear a0 a1 a2 a3 a4 a5 p0 p1 p2 p3 p4 p5 d0 d1 e0 e1 hlt hlt0 hb; obtain ⟨a0, a1, a2, a3, a4, a5, p0, p1, p2, p3, p4, p5, d0, d1, e0, e1, hlt⟩ := HK.out; have hlt0 := Nat.lt_of_succ_lt hlt; unfold tokV))
  exact tokr_done (V := w3) rfl HK.out HB0.out rfl rfl HT.out
 have z95 : ((c.toNat : Int) == 95) = false := byte_ne (d := 95) h95
 replace HT0 := hid (HT0.out.trans (if_neg h95))
 clear h95
 by_cases hq3 : c = 34 \/ c = 39
 ·have PA : Hid (∀ u, Calls Tryz.prog 115 #[.string (B l), .int .i64 (i : Int)] u fun e w' => TokRef e (tokG l i) /\ Below u.heap.size u w') := hid (fun u => by rw [HT0.out, if_pos hq3]; exact refText10_l l i u hi hl (by rw [hc]; exact hq3))
  clear HT0
  rcases hq3 with h34 | h39
  ·have z34 : ((c.toNat : Int) == 34) = true := byte_eq (d := 34) h34
   clear h34
   go_wp2_with (first | (go_at_call 112; (with_reducible refine (BA.out v _).mono ?_); rintro e w2 ⟨rfl, hb⟩; replace HK := hid (HK.out.below hb); replace HB0 := hid (HB0.out.trans (hb.mono HB0.out.size)); clear a0 a1 a2 a3 a4 a5 p0 p1 p2 p3 p4 p5 d0 d1 e0 e1 hlt hlt0 hb; obtain ⟨a0, a1, a2, a3, a4, a5, p0, p1, p2, p3, p4, p5, d0, d1, e0, e1, hlt⟩ := HK.out; have hlt0 := Nat.lt_of_succ_lt hlt) | (go_at_call 115; (with_reducible refine (PA.out _).mono ?_); rintro e w3 ⟨ht, hb⟩; obtain ⟨k, x, y, z, a, f, p, n, rfl⟩ := tokRef_any ht; have HT := hid ht; clear ht; replace HK := hid (HK.out.below hb); replace HB0 := hid (HB0.out.trans (hb.mono HB0.out.size)); clear a0 a1 a2 a3 a4 a5 p0 p1 p2 p3 p4 p5 d0 d1 e0 e1 hlt hlt0 hb; obtain ⟨a0, a1, a2, a3, a4, a5, p0, p1, p2, p3, p4, p5, d0, d1, e0, e1, hlt⟩ := HK.out; have hlt0 := Nat.lt_of_succ_lt hlt; unfold tokV))
   exact tokr_done (V := w3) rfl HK.out HB0.out rfl rfl HT.out
  ·have z34 : ((c.toNat : Int) == 34) = false := byte_ne (d := 34) (by rw [h39]; decide)
   have z39 : ((c.toNat : Int) == 39) = true := byte_eq (d := 39) h39
   clear h39
   go_wp2_with (first | (go_at_call 112; (with_reducible refine (BA.out v _).mono ?_); rintro e w2 ⟨rfl, hb⟩; replace HK := hid (HK.out.below hb); replace HB0 := hid (HB0.out.trans (hb.mono HB0.out.size)); clear a0 a1 a2 a3 a4 a5 p0 p1 p2 p3 p4 p5 d0 d1 e0 e1 hlt hlt0 hb; obtain ⟨a0, a1, a2, a3, a4, a5, p0, p1, p2, p3, p4, p5, d0, d1, e0, e1, hlt⟩ := HK.out; have hlt0 := Nat.lt_of_succ_lt hlt) | (go_at_call 115; (with_reducible refine (PA.out _).mono ?_); rintro e w3 ⟨ht, hb⟩; obtain ⟨k, x, y, z, a, f, p, n, rfl⟩ := tokRef_any ht; have HT := hid ht; clear ht; replace HK := hid (HK.out.below hb); replace HB0 := hid (HB0.out.trans (hb.mono HB0.out.size)); clear a0 a1 a2 a3 a4 a5 p0 p1 p2 p3 p4 p5 d0 d1 e0 e1 hlt hlt0 hb; obtain ⟨a0, a1, a2, a3, a4, a5, p0, p1, p2, p3, p4, p5, d0, d1, e0, e1, hlt⟩ := HK.out; have hlt0 := Nat.lt_of_succ_lt hlt; unfold tokV))
   exact tokr_done (V := w3) rfl HK.out HB0.out rfl rfl HT.out
 have z34 : ((c.toNat : Int) == 34) = false := byte_ne (d := 34) (fun e => hq3 (.inl e))
 have z39 : ((c.toNat : Int) == 39) = false := byte_ne (d := 39) (fun e => hq3 (.inr e))
 replace HT0 := hid (HT0.out.trans (if_neg hq3))
 clear hq3
 by_cases h64 : c = 64
 ·have z64 : ((c.toNat : Int) == 64) = true := byte_eq (d := 64) h64
  have PA : Hid (∀ u, Calls Tryz.prog 116 #[.string (B l), .int .i64 (i : Int)] u fun e w' => TokRef e (tokG l i) /\ Below u.heap.size u w') := hid (fun u => by rw [HT0.out, if_pos h64]; exact refTag10_l l i u hi hl)
  clear HT0
  go_wp2_with (first | (go_at_call 112; (with_reducible refine (BA.out v _).mono ?_); rintro e w2 ⟨rfl, hb⟩; replace HK := hid (HK.out.below hb); replace HB0 := hid (HB0.out.trans (hb.mono HB0.out.size)); clear a0 a1 a2 a3 a4 a5 p0 p1 p2 p3 p4 p5 d0 d1 e0 e1 hlt hlt0 hb; obtain ⟨a0, a1, a2, a3, a4, a5, p0, p1, p2, p3, p4, p5, d0, d1, e0, e1, hlt⟩ := HK.out; have hlt0 := Nat.lt_of_succ_lt hlt) | (go_at_call 116; (with_reducible refine (PA.out _).mono ?_); rintro e w3 ⟨ht, hb⟩; obtain ⟨k, x, y, z, a, f, p, n, rfl⟩ := tokRef_any ht; have HT := hid ht; clear ht; replace HK := hid (HK.out.below hb); replace HB0 := hid (HB0.out.trans (hb.mono HB0.out.size)); clear a0 a1 a2 a3 a4 a5 p0 p1 p2 p3 p4 p5 d0 d1 e0 e1 hlt hlt0 hb; obtain ⟨a0, a1, a2, a3, a4, a5, p0, p1, p2, p3, p4, p5, d0, d1, e0, e1, hlt⟩ := HK.out; have hlt0 := Nat.lt_of_succ_lt hlt; unfold tokV))
  exact tokr_done (V := w3) rfl HK.out HB0.out rfl rfl HT.out
 have z64 : ((c.toNat : Int) == 64) = false := byte_ne (d := 64) h64
 replace HT0 := hid (HT0.out.trans (if_neg h64))
 clear h64
 by_cases hiN : i < N
 ·have g1 : decide ((i : Int) < (N : Int)) = true := decide_eq_true (by omega)
  have hNl := HNL.out hiN
  obtain ⟨t, ht⟩ : ∃ t, cutF l i N = t := ⟨_, rfl⟩
  have hcut2 : List.take (N - i) (List.drop i l) = t := ht
  have m1 : (i : Int) <= (N : Int) := by omega
  have m2 : (N : Int) <= (l.length : Int) := by omega
  have HI : Hid (tokG l i = .inl ⟨6, t, [], xsdW ++ T, (i : Nat), (N : Nat)⟩) := hid (by rw [HT0.out, if_pos hiN, ht])
  clear HT0 ht
  go_wp2_with (first | (go_at_call 112; (with_reducible refine (BA.out v _).mono ?_); rintro e w2 ⟨rfl, hb⟩; replace HK := hid (HK.out.below hb); replace HB0 := hid (HB0.out.trans (hb.mono HB0.out.size)); clear a0 a1 a2 a3 a4 a5 p0 p1 p2 p3 p4 p5 d0 d1 e0 e1 hlt hlt0 hb; obtain ⟨a0, a1, a2, a3, a4, a5, p0, p1, p2, p3, p4, p5, d0, d1, e0, e1, hlt⟩ := HK.out; have hlt0 := Nat.lt_of_succ_lt hlt))
  exact tokr_done rfl HK.out HB0.out rfl rfl (by rw [HI.out]; exact tokRef_of (t := ⟨6, t, [], xsdW ++ T, (i : Nat), (N : Nat)⟩) rfl rfl (B_append xsdW T) rfl rfl)
 have g1 : decide ((i : Int) < (N : Int)) = false := decide_eq_false (by omega)
 have g2 : decide (i < N) = false := decide_eq_false hiN
 have g3 : N <= i := by omega
 replace HT0 := hid (HT0.out.trans (if_neg hiN))
 clear hiN HNL
 have W1 : IntKind.i64.wrap ((i : Int) + 1) = (i : Int) + 1 := IntWalk.i64_in _ (by omega)
 have W2 : IntKind.i64.wrap ((i : Int) + 2) = (i : Int) + 2 := IntWalk.i64_in _ (by omega)
 by_cases h94 : c = 94 /\ i + 1 < l.length /\ l.getD (i + 1) 0 = 94
 ·have z94 : ((c.toNat : Int) == 94) = true := byte_eq (d := 94) h94.1
  have l1 : decide ((i : Int) + 1 < (l.length : Int)) = true := decide_eq_true (by omega)
  have l2 : i + 1 < l.length := h94.2.1
  have l3 : (i : Int) + 1 < (l.length : Int) := by omega
  have hx : l[i + 1] = 94 := by have := h94.2.2; simpa [List.getD, l2] using this
  have HI : Hid (tokG l i = .inl ⟨8, [94, 94], [], [], (i : Nat), (i + 2 : Nat)⟩) := hid (by rw [HT0.out, if_pos h94])
  have y94 : (((l[i + 1]'l2).toNat : Int) == 94) = true := byte_eq (d := 94) hx
  clear HT0 h94 hx
  go_wp2_with (first | (go_at_call 112; (with_reducible refine (BA.out v _).mono ?_); rintro e w2 ⟨rfl, hb⟩; replace HK := hid (HK.out.below hb); replace HB0 := hid (HB0.out.trans (hb.mono HB0.out.size)); clear a0 a1 a2 a3 a4 a5 p0 p1 p2 p3 p4 p5 d0 d1 e0 e1 hlt hlt0 hb; obtain ⟨a0, a1, a2, a3, a4, a5, p0, p1, p2, p3, p4, p5, d0, d1, e0, e1, hlt⟩ := HK.out; have hlt0 := Nat.lt_of_succ_lt hlt))
  exact tokr_done rfl HK.out HB0.out rfl rfl (by rw [HI.out]; exact tokRef_of (t := ⟨8, [94, 94], [], [], (i : Nat), (i + 2 : Nat)⟩) rfl rfl rfl rfl (by simp only; omega))
 replace HT0 := hid (HT0.out.trans (if_neg h94))
 have R : ((c.toNat : Int) == 94) = false \/ (((c.toNat : Int) == 94) = true /\ decide ((i : Int) + 1 < (l.length : Int)) = false) \/ (((c.toNat : Int) == 94) = true /\ decide ((i : Int) + 1 < (l.length : Int)) = true /\ (i : Int) + 1 < (l.length : Int) /\ ∃ h2 : i + 1 < l.length, (((l[i + 1]'h2).toNat : Int) == 94) = false) := by
  by_cases h1 : c = 94
  ·refine .inr ?_
   by_cases h2 : i + 1 < l.length
   ·exact .inr ⟨byte_eq (d := 94) h1, decide_eq_true (by omega), by omega, h2, byte_ne (d := 94) (fun e => h94 ⟨h1, h2, by simp [List.getD, h2, e]⟩)⟩
   ·exact .inl ⟨byte_eq (d := 94) h1, decide_eq_false (by omega)⟩
  ·exact .inl (byte_ne (d := 94) h1)
 clear h94
 rcases R with z94 | ⟨z94, l1⟩ | ⟨z94, l1, l3, l2, y94⟩ <;> (
  go_wp2_with (first | (go_at_call 112; (with_reducible refine (BA.out v _).mono ?_); rintro e w2 ⟨rfl, hb⟩; replace HK := hid (HK.out.below hb); replace HB0 := hid (HB0.out.trans (hb.mono HB0.out.size)); clear a0 a1 a2 a3 a4 a5 p0 p1 p2 p3 p4 p5 d0 d1 e0 e1 hlt hlt0 hb; obtain ⟨a0, a1, a2, a3, a4, a5, p0, p1, p2, p3, p4, p5, d0, d1, e0, e1, hlt⟩ := HK.out; have hlt0 := Nat.lt_of_succ_lt hlt))
  have HK1 := HK
  have HB1 := HB0
  clear HK HB0 a0 a1 a2 a3 a4 a5 p0 p1 p2 p3 p4 p5 d0 d1 e0 e1 hlt hlt0
  go_loopw [11] (fun z wr => ∃ k : Nat, z = .int .i64 (k : Int) /\ k <= 9 /\ Hid (∀ q, q < k -> signsW.getD q 0 ≠ c) /\ Hid (TkAt wr w.heap.size) /\ Hid (Below w.heap.size w wr)) (fun z _ => 9 - (intOf z).toNat)
  case atStart => exact ⟨0, rfl, Nat.zero_le _, hid (fun q h => by omega), HK1, HB1⟩
  case round =>
   obtain ⟨k, rfl, hk9, HNO, HK, HB0⟩ := hrel
   have k0' : (0 : Int) <= (k : Int) := by omega
   have WK : IntKind.i64.wrap ((k : Int) + 1) = (k : Int) + 1 := IntWalk.i64_in _ (by omega)
   obtain ⟨a0, a1, a2, a3, a4, a5, p0, p1, p2, p3, p4, p5, d0, d1, e0, e1, hlt⟩ := HK.out
   have hlt0 := Nat.lt_of_succ_lt hlt
   by_cases hk : k < 9
   ·have t1 : decide ((k : Int) < 9) = true := decide_eq_true (by omega)
    have IX := fun u => sg_at u k hk
    obtain ⟨s, hs⟩ : ∃ s, signsW.getD k 0 = s := ⟨_, rfl⟩
    rw [hs] at IX
    by_cases he : s = c
    ·have q1 : ((s.toNat : Int) == (c.toNat : Int)) = true := byte_eq he
     have HI : Hid (tokG l i = .inl ⟨8, [s], [], [], (i : Nat), (i + 1 : Nat)⟩) := hid (by rw [HT0.out, if_pos (by rw [<- he, <- hs]; exact sg_mem hk), he])
     have HCU := hid (sg_cut k hk)
     rw [hs] at HCU
     clear HT0 HNO hs he
     go_wp2_with fail
     exact tokr_done rfl HK.out HB0.out rfl rfl (by rw [HI.out]; exact tokRef_of (t := ⟨8, [s], [], [], (i : Nat), (i + 1 : Nat)⟩) HCU.out rfl rfl rfl (by simp only; omega))
    ·have q1 : ((s.toNat : Int) == (c.toNat : Int)) = false := byte_ne he
     have HNO2 : Hid (∀ q, q < k + 1 -> signsW.getD q 0 ≠ c) := hid (fun q hq => by
      by_cases e : q = k
      ·rw [e, hs]; exact he
      ·exact HNO.out q (by omega))
     clear HNO hs he
     go_wp2_with fail
     go_roundw
     case rel => exact ⟨k + 1, by go_num, by omega, HNO2, HK, HB0⟩
     case measure => simp [intOf]; omega
   ·have t1 : decide ((k : Int) < 9) = false := decide_eq_false (by omega)
    have HI : Hid (tokG l i = .inr (i, 100)) := hid (by rw [HT0.out, if_neg (by rw [sg_all (fun q hq => HNO.out q (by omega))]; simp)])
    clear HT0 HNO
    go_wp2_with fail
    exact tokr_done rfl HK.out HB0.out rfl rfl (by rw [HI.out]; rfl))
end Go.Proofs.YtdhmpakhdhdebaaGreatDoor
namespace Go.Proofs.YtdhmpakhdhdebaaGreatDoor
open Go.Lib (hid)
open Go.RowKit
set_option maxRecDepth 100000
theorem tkBox {w V : World} {k a f p n : Int} {x y z : ByteArray} (h : (w.alloc (.cells #[.int .i64 k, .string x, .string y, .string z, .int .i64 a, .int .i64 f] 50)).alloc (.cells #[.int .i64 p, .int .i64 n] 64) = V) :
  RowAt V w.heap.size [.int .i64 k, .string x, .string y, .string z, .int .i64 a, .int .i64 f] /\ RowAt V (w.heap.size + 1) [.int .i64 p, .int .i64 n] /\ Below w.heap.size w V /\ V.heap.size = w.heap.size + 2 := by
 subst h
 have h0 := heap_alloc_new w (.cells #[.int .i64 k, .string x, .string y, .string z, .int .i64 a, .int .i64 f] 50)
 have h1 := (heap_alloc_old (w.alloc (.cells #[.int .i64 k, .string x, .string y, .string z, .int .i64 a, .int .i64 f] 50)) (.cells #[.int .i64 p, .int .i64 n] 64) (r := w.heap.size) (by simp)).trans h0
 have h2 := heap_alloc_new (w.alloc (.cells #[.int .i64 k, .string x, .string y, .string z, .int .i64 a, .int .i64 f] 50)) (.cells #[.int .i64 p, .int .i64 n] 64)
 rw [show (w.alloc (.cells #[.int .i64 k, .string x, .string y, .string z, .int .i64 a, .int .i64 f] 50)).heap.size = w.heap.size + 1 by simp] at h2
 exact ⟨rowAt_of_heap h1, rowAt_of_heap h2, ((Below.refl _ _).alloc (Nat.le_refl _) _).alloc (by simp) _, by simp⟩
set_option maxHeartbeats 6400000 in
theorem refNext10_l (l : List UInt8) (i : Nat) (w : World) (hi : i <= l.length) (hl : l.length <= 1048576) :
  Calls Tryz.prog 46 #[.string (B l), .int .i64 (i : Int)] w fun e w' => TokRef e (nextG l i) /\ Below w.heap.size w w' := by
 obtain ⟨W, hW⟩ : ∃ W, (w.alloc (.cells #[.int .i64 0, .string ⟨#[]⟩, .string ⟨#[]⟩, .string ⟨#[]⟩, .int .i64 0, .int .i64 0] 50)).alloc (.cells #[.int .i64 0, .int .i64 0] 64) = W := ⟨_, rfl⟩
 have HB0 : Hid (Below w.heap.size w W) := hid (by rw [<- hW]; exact ((Below.refl _ _).alloc (Nat.le_refl _) _).alloc (by simp) _)
 have HK : Hid (TkAt W w.heap.size) := hid (by rw [<- hW]; exact tkr_new w)
 have k0 : (0 : Int) <= (i : Int) := by omega
 have k1 : (i : Int) <= (l.length : Int) := by omega
 obtain ⟨a0, a1, a2, a3, a4, a5, p0, p1, p2, p3, p4, p5, d0, d1, e0, e1, hlt⟩ := HK.out
 have hlt0 := Nat.lt_of_succ_lt hlt
 obtain ⟨g, hg⟩ : ∃ g, gapF l i = g := ⟨_, rfl⟩
 have BL := hid (fun (u : World) => hg ▸ refBlank_l l i u hi (by omega))
 have hgb := gap_le hi
 rw [hg] at hgb
 by_cases he : g = l.length
 ·have e9 : ((g : Int) == (l.length : Int)) = true := beq_iff_eq.2 (by omega)
  have HI : Hid (nextG l i = .inl ⟨0, [], [], [], (g : Nat), (g : Nat)⟩) := hid (by unfold nextG; rw [hg, if_pos he])
  clear hg he
  go_enter Tryz.func46, Tryz.ntmps46
  go_upto_block 0 with fail
  go_wp2_with (first | (go_at_call 75; (with_reducible refine (BL.out _).mono ?_); rintro e w1 ⟨rfl, rfl⟩))
  exact tokr_done (V := w1) rfl HK.out HB0.out rfl rfl (by rw [HI.out]; exact tokRef_of (t := ⟨0, [], [], [], (g : Nat), (g : Nat)⟩) rfl rfl rfl rfl rfl)
 have e9 : ((g : Int) == (l.length : Int)) = false := beq_eq_false_iff_ne.2 (by omega)
 have hgl : g < l.length := by omega
 have T0 := fun (u : World) => refToken10_l l g u hgl hl
 have hat := tok_at hgl
 obtain ⟨r, hr⟩ : ∃ r, tokG l g = r := ⟨_, rfl⟩
 rw [hr] at hat
 rw [hr] at T0
 have HI1 : Hid (∀ t, r = .inl t -> nextG l i = if 65536 < t.text.length \/ 65536 < t.loc.length then .inr (g, 2) else .inl t) := hid (fun t h => by unfold nextG; rw [hg, if_neg he, hr, h])
 have HI2 : Hid (∀ f, r = .inr f -> nextG l i = .inr f) := hid (fun t h => by unfold nextG; rw [hg, if_neg he, hr, h])
 clear hg he hr
 rcases r with t | ⟨p, n⟩
 ·obtain ⟨tk, tx, tl, ty, ta, tf⟩ := t
  have TK : Hid (∀ u, Calls Tryz.prog 76 #[.string (B l), .int .i64 (g : Int)] u fun e w' => e = .returned (.tuple #[tokV tk (B tx) (B tl) (B ty) ta tf, .agg #[.int .i64 0, .int .i64 0]]) /\ Below u.heap.size u w') := hid T0
  have HI0 := hid (HI1.out _ rfl)
  clear T0 hat HI1 HI2
  go_enter Tryz.func46, Tryz.ntmps46
  go_upto_block 0 with fail
  go_upto_region 5 with (first | (go_at_call 75; (with_reducible refine (BL.out _).mono ?_); rintro e w1 ⟨rfl, rfl⟩) | (go_at_call 76; (with_reducible refine (TK.out _).mono ?_); rintro e w3 ⟨rfl, hb⟩; replace HK := hid (HK.out.below hb); replace HB0 := hid (HB0.out.trans (hb.mono HB0.out.size)); clear a0 a1 a2 a3 a4 a5 p0 p1 p2 p3 p4 p5 d0 d1 e0 e1 hlt hlt0 hb; obtain ⟨a0, a1, a2, a3, a4, a5, p0, p1, p2, p3, p4, p5, d0, d1, e0, e1, hlt⟩ := HK.out; have hlt0 := Nat.lt_of_succ_lt hlt; unfold tokV))
  obtain ⟨V, hV⟩ : ∃ V, (w3.alloc (.cells #[.int .i64 tk, .string (B tx), .string (B tl), .string (B ty), .int .i64 ta, .int .i64 tf] 50)).alloc (.cells #[.int .i64 0, .int .i64 0] 64) = V := ⟨_, rfl⟩
  rw [hV]
  obtain ⟨T6, T2, hb, hs⟩ := tkBox hV
  obtain ⟨⟨b0, b1, b2, b3, b4, b5⟩, _, _, _, _, _, _⟩ := row6 T6
  have t0 := T2.cell (j := 0) (by simp)
  have t1 := T2.cell (j := 1) (by simp)
  simp only [List.getElem_cons_zero, List.getElem_cons_succ] at t0 t1
  have s1 : ¬ w3.heap.size = w.heap.size := by omega
  have s2 : ¬ w3.heap.size = w.heap.size + 1 := by omega
  have s3 : ¬ w3.heap.size + 1 = w.heap.size := by omega
  have s4 : ¬ w3.heap.size + 1 = w.heap.size + 1 := by omega
  clear hV T6 T2 hs
  replace HK := hid (HK.out.below hb)
  replace HB0 := hid (HB0.out.trans (hb.mono HB0.out.size))
  clear a0 a1 a2 a3 a4 a5 p0 p1 p2 p3 p4 p5 d0 d1 e0 e1 hlt hlt0 hb
  obtain ⟨a0, a1, a2, a3, a4, a5, p0, p1, p2, p3, p4, p5, d0, d1, e0, e1, hlt⟩ := HK.out
  have hlt0 := Nat.lt_of_succ_lt hlt
  by_cases h1 : 65536 < tx.length
  ·have g1 : decide ((65536 : Int) < (tx.length : Int)) = true := decide_eq_true (by omega)
   have HI : Hid (nextG l i = .inr (g, 2)) := hid (HI0.out.trans (if_pos (.inl h1)))
   clear HI0
   go_wp2_with fail
   exact tokr_done (V := V) rfl HK.out HB0.out rfl rfl (by rw [HI.out]; rfl)
  have g1 : decide ((65536 : Int) < (tx.length : Int)) = false := decide_eq_false (by omega)
  have g2 : decide (65536 < tx.length) = false := decide_eq_false h1
  by_cases h2 : 65536 < tl.length
  ·have g3 : decide ((65536 : Int) < (tl.length : Int)) = true := decide_eq_true (by omega)
   have HI : Hid (nextG l i = .inr (g, 2)) := hid (HI0.out.trans (if_pos (.inr h2)))
   clear HI0
   go_wp2_with fail
   exact tokr_done (V := V) rfl HK.out HB0.out rfl rfl (by rw [HI.out]; rfl)
  have g3 : decide ((65536 : Int) < (tl.length : Int)) = false := decide_eq_false (by omega)
  have g4 : decide (65536 < tl.length) = false := decide_eq_false h2
  have HI : Hid (nextG l i = .inl ⟨tk, tx, tl, ty, ta, tf⟩) := hid (HI0.out.trans (if_neg (by rintro (h | h); exact h1 h; exact h2 h)))
  clear HI0 h1 h2
  go_upto_region 7 with fail
  go_region
  all_goals (go_wp2_with fail)
  all_goals exact tokr_done_d (V := V) rfl HK.out HB0.out rfl rfl (by rw [HI.out]; rfl)
 ·have TK : Hid (∀ u, Calls Tryz.prog 76 #[.string (B l), .int .i64 (g : Int)] u fun e w' => e = .returned (.tuple #[tokV 0 ⟨#[]⟩ ⟨#[]⟩ ⟨#[]⟩ 0 0, .agg #[.int .i64 (p : Int), .int .i64 n]]) /\ Below u.heap.size u w') := hid T0
  have HI : Hid (nextG l i = .inr (p, n)) := hid (HI2.out _ rfl)
  have n0 : (n == 0) = false := beq_eq_false_iff_ne.2 (by have := hat.2.2; omega)
  clear T0 hat HI1 HI2
  go_enter Tryz.func46, Tryz.ntmps46
  go_upto_block 0 with fail
  go_upto_region 5 with (first | (go_at_call 75; (with_reducible refine (BL.out _).mono ?_); rintro e w1 ⟨rfl, rfl⟩) | (go_at_call 76; (with_reducible refine (TK.out _).mono ?_); rintro e w3 ⟨rfl, hb⟩; replace HK := hid (HK.out.below hb); replace HB0 := hid (HB0.out.trans (hb.mono HB0.out.size)); clear a0 a1 a2 a3 a4 a5 p0 p1 p2 p3 p4 p5 d0 d1 e0 e1 hlt hlt0 hb; obtain ⟨a0, a1, a2, a3, a4, a5, p0, p1, p2, p3, p4, p5, d0, d1, e0, e1, hlt⟩ := HK.out; have hlt0 := Nat.lt_of_succ_lt hlt; unfold tokV))
  obtain ⟨V, hV⟩ : ∃ V, (w3.alloc (.cells #[.int .i64 0, .string ⟨#[]⟩, .string ⟨#[]⟩, .string ⟨#[]⟩, .int .i64 0, .int .i64 0] 50)).alloc (.cells #[.int .i64 (p : Int), .int .i64 n] 64) = V := ⟨_, rfl⟩
  rw [hV]
  obtain ⟨T6, T2, hb, hs⟩ := tkBox hV
  obtain ⟨⟨b0, b1, b2, b3, b4, b5⟩, _, _, _, _, _, _⟩ := row6 T6
  have t0 := T2.cell (j := 0) (by simp)
  have t1 := T2.cell (j := 1) (by simp)
  simp only [List.getElem_cons_zero, List.getElem_cons_succ] at t0 t1
  have s1 : ¬ w3.heap.size = w.heap.size := by omega
  have s2 : ¬ w3.heap.size = w.heap.size + 1 := by omega
  have s3 : ¬ w3.heap.size + 1 = w.heap.size := by omega
  have s4 : ¬ w3.heap.size + 1 = w.heap.size + 1 := by omega
  clear hV T6 T2 hs
  replace HK := hid (HK.out.below hb)
  replace HB0 := hid (HB0.out.trans (hb.mono HB0.out.size))
  clear a0 a1 a2 a3 a4 a5 p0 p1 p2 p3 p4 p5 d0 d1 e0 e1 hlt hlt0 hb
  obtain ⟨a0, a1, a2, a3, a4, a5, p0, p1, p2, p3, p4, p5, d0, d1, e0, e1, hlt⟩ := HK.out
  have hlt0 := Nat.lt_of_succ_lt hlt
  go_upto_region 7 with fail
  go_region
  all_goals (go_wp2_with fail)
  all_goals exact tokr_done_d (V := V) rfl HK.out HB0.out rfl rfl (by rw [HI.out]; rfl)
end Go.Proofs.YtdhmpakhdhdebaaGreatDoor
