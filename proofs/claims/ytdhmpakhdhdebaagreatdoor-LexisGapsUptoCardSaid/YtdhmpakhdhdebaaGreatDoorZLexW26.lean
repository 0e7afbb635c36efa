/-
  tesseralaw10.blanks: a contract. By an AI agent.
-/
import Derived.Test.YtdhmpakhdhdebaaGreatDoorZMoreLexisGaps
import Derived.Test.YtdhmpakhdhdebaaGreatDoorZLexW24
import Derived.Deep.RegionHeld3
import Derived.Test.YtdhmpakhdhdebaaGreatDoorZLexL6
import Derived.Test.YtdhmpakhdhdebaaGreatDoorZBOwn
import Derived.Test.YtdhmpakhdhdebaaGreatDoorZApp
import Derived.StillTailTactics
import Derived.Test.YtdhmpakhdhdebaaGreatDoorZTextBack1
namespace Go.Proofs.YtdhmpakhdhdebaaGreatDoor
open Go.RowKit
set_option maxRecDepth 100000
theorem blanksM_cut {l : List UInt8} {k : Nat} (hk : k < l.length) (i : Bool) : blanksM (l.drop k) i = blanksM (l[k] :: l.drop (k + 1)) i := by rw [List.drop_eq_getElem_cons hk]
set_option maxHeartbeats 3200000 in
theorem blanks_l (l : List UInt8) (last : Bool) (w : World) (hl : l.length <= 4194304) :
   Calls Tryz.prog 19 #[.string (B l), .bool last] w fun e w' => e = .returned (.bool (blanksF l last)) /\ w' = w := by
 go_enter Tryz.func19, Tryz.ntmps19
 go_wp2_with fail
 go_loopw [5, 6] (fun b s wr => ∃ (k : Nat) (i : Bool), s = .int .i64 k /\ b = .bool i /\ k <= l.length /\ Hid (blanksM l false = blanksM (l.drop k) i) /\ wr = w) (fun _ s _ => l.length - (intOf s).toNat)
 case atStart => exact ⟨0, false, rfl, rfl, Nat.zero_le _, Lib.hid rfl, rfl⟩
 case round =>
   obtain ⟨k, i, rfl, rfl, hk, HM, rfl⟩ := hrel
   by_cases hlt : k < l.length
   · have c1 : decide ((k : Int) < (l.length : Int)) = true := decide_eq_true (by omega)
     have c2 : decide (k < l.length) = true := decide_eq_true hlt
     have i0 : 0 <= (k : Int) := by omega
     have i1 : (k : Int) < (l.length : Int) := by omega
     have hcut := blanksM_cut hlt i
     have HC := Lib.hid hcut
     clear hcut
     by_cases h13 : l[k] = 13
     · have y13 : ((l[k].toNat : Int) == 13) = true := by rw [h13]; rfl
       have HN : Hid (blanksM l false = blanksM (l.drop (k + 1)) false) := Lib.hid (by rw [HM.out, HC.out, h13]; rfl)
       clear h13
       go_wp2_with fail
       go_roundw
       case rel => exact ⟨k + 1, false, by go_num, rfl, by omega, HN, (by first | trivial | rfl)⟩
       case measure => simp [intOf]; omega
     have y13 : ((l[k].toNat : Int) == 13) = false := byte_ne (d := 13) h13
     by_cases h10 : l[k] = 10
     · have y10 : ((l[k].toNat : Int) == 10) = true := by rw [h10]; rfl
       have HN : Hid (blanksM l false = blanksM (l.drop (k + 1)) false) := Lib.hid (by rw [HM.out, HC.out, h10]; rfl)
       clear h10 h13
       go_wp2_with fail
       go_roundw
       case rel => exact ⟨k + 1, false, by go_num, rfl, by omega, HN, (by first | trivial | rfl)⟩
       case measure => simp [intOf]; omega
     have y10 : ((l[k].toNat : Int) == 10) = false := byte_ne (d := 10) h10
     have HEO : Hid (eolC l[k] = false) := Lib.hid (by unfold eolC; rw [beq_eq_false_iff_ne.2 h10, beq_eq_false_iff_ne.2 h13]; rfl)
     by_cases h35 : l[k] = 35
     · have y35 : ((l[k].toNat : Int) == 35) = true := by rw [h35]; rfl
       have HN : Hid (blanksM l false = blanksM (l.drop (k + 1)) true) := Lib.hid (by rw [HM.out, HC.out, h35]; rfl)
       clear h10 h13 h35
       go_wp2_with fail
       go_roundw
       case rel => exact ⟨k + 1, true, by go_num, rfl, by omega, HN, (by first | trivial | rfl)⟩
       case measure => simp [intOf]; omega
     have y35 : ((l[k].toNat : Int) == 35) = false := byte_ne (d := 35) h35
     have HUN : Hid (blanksM (l[k] :: l.drop (k + 1)) i = if l[k] = 32 \/ l[k] = 9 \/ i = true then blanksM (l.drop (k + 1)) i else none) := Lib.hid (by
       conv => lhs; unfold blanksM
       rw [if_neg (by rw [HEO.out]; simp), if_neg h35])
     have HTO : l[k] = 32 \/ l[k] = 9 \/ i = true -> Hid (blanksM l false = blanksM (l.drop (k + 1)) i) := fun h => Lib.hid (by rw [HM.out, HC.out, HUN.out, if_pos h])
     by_cases h32 : l[k] = 32
     · have y32 : ((l[k].toNat : Int) == 32) = true := by rw [h32]; rfl
       have z32 : ((l[k].toNat : Int) != 32) = false := by rw [h32]; rfl
       have HN := HTO (.inl h32)
       clear h10 h13 h35 h32 HTO
       go_wp2_with fail
       go_roundw
       case rel => exact ⟨k + 1, i, by go_num, rfl, by omega, HN, (by first | trivial | rfl)⟩
       case measure => simp [intOf]; omega
     have y32 : ((l[k].toNat : Int) == 32) = false := byte_ne (d := 32) h32
     have z32 : ((l[k].toNat : Int) != 32) = true := by unfold bne; rw [y32]; rfl
     by_cases h9 : l[k] = 9
     · have y9 : ((l[k].toNat : Int) == 9) = true := by rw [h9]; rfl
       have z9 : ((l[k].toNat : Int) != 9) = false := by rw [h9]; rfl
       have HN := HTO (.inr (.inl h9))
       clear h10 h13 h35 h32 h9 HTO
       go_wp2_with fail
       go_roundw
       case rel => exact ⟨k + 1, i, by go_num, rfl, by omega, HN, (by first | trivial | rfl)⟩
       case measure => simp [intOf]; omega
     have y9 : ((l[k].toNat : Int) == 9) = false := byte_ne (d := 9) h9
     have z9 : ((l[k].toNat : Int) != 9) = true := by unfold bne; rw [y9]; rfl
     cases i
     · have HF : Hid (blanksF l last = false) := Lib.hid (by unfold blanksF; rw [HM.out, HC.out, HUN.out, if_neg (by rintro (h | h | h); exact h32 h; exact h9 h; cases h)])
       clear h10 h13 h35 h32 h9 HTO
       go_wp2_with fail
       go_ret
       exact ⟨by rw [HF.out]; rfl, rfl⟩
     · have HN := HTO (.inr (.inr rfl))
       clear h10 h13 h35 h32 h9 HTO
       go_wp2_with fail
       go_roundw
       case rel => exact ⟨k + 1, true, by go_num, rfl, by omega, HN, (by first | trivial | rfl)⟩
       case measure => simp [intOf]; omega
   · have c1 : decide ((k : Int) < (l.length : Int)) = false := decide_eq_false (by omega)
     have c2 : decide (k < l.length) = false := decide_eq_false hlt
     have HF : Hid (blanksF l last = (last || !i)) := Lib.hid (by unfold blanksF; rw [HM.out, List.drop_eq_nil_of_le (by omega)]; rfl)
     cases last <;> cases i <;> (go_wp2_with fail; go_ret; exact ⟨by rw [HF.out]; rfl, rfl⟩)
end Go.Proofs.YtdhmpakhdhdebaaGreatDoor
namespace Go.Proofs.YtdhmpakhdhdebaaGreatDoor
open Go.RowKit
set_option maxRecDepth 100000
theorem blanksF_true {g : List UInt8} (h : blanksF g true = true) : ∃ i, blanksM g false = some i := by
 unfold blanksF at h
 cases hm : blanksM g false with
 | none => rw [hm] at h; cases h
 | some i => exact ⟨i, rfl⟩
def gapOf (g : List UInt8) (bad : Bool) : List UInt8 := if bad = true then [32] else g
theorem gap_fine {s g : List UInt8} {n : Nat} {z1 z2 z3 z4 : Bool} (h1 : (g == []) = z1) (h2 : blanksF g true = z2) (h3 : decide (0 <= utfF g 0) = z3) (h4 : decide (1000000 < (s.length : Int) + ((n * (g.length + 1) : Nat) : Int)) = z4) (hn : n <= s.length) (hs : s.length <= 1048576) :
   (∃ i, blanksM (gapOf g ((!z1 && !z2) || z3 || z4)) false = some i) /\ utfF (gapOf g ((!z1 && !z2) || z3 || z4)) 0 = -1 /\ s.length + n * ((gapOf g ((!z1 && !z2) || z3 || z4)).length + 1) <= 4194304 := by
 unfold gapOf
 by_cases hb : ((!z1 && !z2) || z3 || z4) = true
 · rw [if_pos hb]
   refine ⟨⟨false, rfl⟩, by decide +kernel, ?_⟩
   simp only [List.length_singleton]
   omega
 · rw [if_neg hb]
   simp only [Bool.or_eq_true, Bool.and_eq_true, Bool.not_eq_true', not_or, Bool.not_eq_true] at hb
   obtain ⟨⟨hb1, hb3⟩, hb4⟩ := hb
   subst hb3 hb4
   have h3' := of_decide_eq_false h3
   have h4' := of_decide_eq_false h4
   refine ⟨?_, utf_all h3', by omega⟩
   cases z1 with
   | true => rw [beq_iff_eq] at h1; rw [h1]; exact ⟨false, rfl⟩
   | false =>
     cases z2 with
     | true => exact blanksF_true h2
     | false => exact absurd ⟨rfl, rfl⟩ hb1
theorem bown_drewN {b : Nat} {v : Value} {l : List UInt8} {w : World} (h : BOwn b v l w) (n : Nat) : BOwn b v l (w.drewN n) := h
theorem gaps_one (w : World) (t : TypeId) : At (w.alloc (.cells #[.int .u8 10] t)) (some ⟨w.heap.size, 0, none⟩) (([10] : List UInt8).map U8) := at_one w (.int .u8 10) t
set_option maxHeartbeats 12800000 in
theorem lexGaps_walk (s g : List UInt8) (w : World) (hl : s.length <= 1048576) (hg : g.length <= 1048576) (hT : TabAt w) (hM : MaxAt w) :
   Calls Tryz.prog 4 #[.string (B s), .string (B g)] w fun e w' => e = .returned (.bool true) /\ Below w.heap.size w w' := by
 have WK := Lib.hid (works_l w hT hM)
 have HTM := Lib.hid (And.intro hT hM)
 clear hT hM
 go_enter Tryz.func4, Tryz.ntmps4
 go_wp2_with (go_at_call 17; (with_reducible refine WK.out.mono ?_); rintro e w1 ⟨rfl, hb1⟩; have HB1 := Lib.hid hb1; clear hb1)
 by_cases hr : (allR s).2 = none
 · have A1 := all_ok hr (w := w1) (by omega) (HTM.out.1.below HB1.out) (HTM.out.2.below HB1.out)
   obtain ⟨hu, hrr⟩ := allR_ok hr
   have hfew := ends_few s
   have HR : Hid (toksF s false 0 = ((allR s).1, none)) := Lib.hid (by rw [<- hrr]; exact Prod.ext rfl hr)
   have HU := Lib.hid hu
   clear hr hrr hu
   refine A1.mono ?_
   clear A1
   generalize (allR s).1 = ts at HR hfew ⊢
   rintro e w2 ⟨⟨a, cap, rfl, hc, hat⟩, hb⟩
   have HA := Lib.hid hat
   have HB2 := Lib.hid (HB1.out.trans (hb.mono HB1.out.size))
   clear hat hb
   have y1 : decide ((16777216 : Int) < (s.length : Int)) = false := decide_eq_false (by omega)
   obtain ⟨z1, hz1⟩ : ∃ z1, (g == []) = z1 := ⟨_, rfl⟩
   obtain ⟨z2, hz2⟩ : ∃ z2, blanksF g true = z2 := ⟨_, rfl⟩
   obtain ⟨zc, hzc⟩ : ∃ zc, utfF g 0 = zc := ⟨_, rfl⟩
   obtain ⟨z3, hz3⟩ : ∃ z3, decide (0 <= zc) = z3 := ⟨_, rfl⟩
   have hP : ts.length * (g.length + 1) <= 1048576 * 1048577 := Nat.mul_le_mul (by omega) (by omega)
   have hPc : (ts.length : Int) * ((g.length : Int) + 1) = ((ts.length * (g.length + 1) : Nat) : Int) := by push_cast; rfl
   obtain ⟨z4, hz4⟩ : ∃ z4, decide (1000000 < (s.length : Int) + ((ts.length * (g.length + 1) : Nat) : Int)) = z4 := ⟨_, rfl⟩
   obtain ⟨hgi, hgu, hgl⟩ := gap_fine (s := s) (n := ts.length) (z3 := z3) hz1 hz2 (by rw [hzc]; exact hz3) hz4 hfew hl
   have W1 : IntKind.i64.wrap ((g.length : Int) + 1) = (g.length : Int) + 1 := IntWalk.i64_in _ (by omega)
   have W2 : IntKind.i64.wrap ((ts.length : Int) * ((g.length : Int) + 1)) = ((ts.length * (g.length + 1) : Nat) : Int) := by rw [hPc]; exact IntWalk.i64_in _ (by omega)
   have W3 : IntKind.i64.wrap ((s.length : Int) + ((ts.length * (g.length + 1) : Nat) : Int)) = (s.length : Int) + ((ts.length * (g.length + 1) : Nat) : Int) := IntWalk.i64_in _ (by omega)
   have HG := Lib.hid (And.intro hgi (And.intro hgu hgl))
   have BL := Lib.hid (fun u : World => hz2 ▸ blanks_l g true u (by omega))
   have UC := Lib.hid (fun u : World => hzc ▸ utfCheck_l g u (by omega))
   generalize ts.length * (g.length + 1) = P at W2 W3 hz4 hP
   clear hgi hgu hgl hPc hz2 hzc
   go_upto_region 6 with fail
   go_cut [48] from 25 to 48 (fun x48 wx => x48 = .bool ((!z1 && !z2) || z3 || z4) /\ wx = w2)
   case first =>
     cases z1 <;> cases z2 <;> cases z3 <;> cases z4 <;> (go_wp2_with (first | (go_at_call 19; (with_reducible refine (BL.out _).mono ?_); rintro e w3 ⟨rfl, hw⟩; rw [hw]; clear hw) | (go_at_call 20; (with_reducible refine (UC.out _).mono ?_); rintro e w3 ⟨rfl, hw⟩; rw [hw]; clear hw)); go_meet; exact ⟨rfl, rfl⟩)
   case rest =>
     obtain ⟨rfl, hw⟩ := hcut
     obtain rfl := hw.symm
     obtain ⟨bad, hbad⟩ : ∃ bad, ((!z1 && !z2) || z3 || z4) = bad := ⟨_, rfl⟩
     rw [hbad] at HG ⊢
     clear hbad hz1 hz3 hz4 hP W1 W2 W3 BL UC
     go_upto_if 48 with fail
     go_cut [1] from 48 to 48 (fun x1 wx => x1 = .string (B (gapOf g bad)) /\ wx = w2)
     case first => cases bad <;> (go_wp2_with fail; go_meet; exact ⟨rfl, rfl⟩)
     case rest =>
       obtain ⟨rfl, hw⟩ := hcut
       obtain rfl := hw.symm
       generalize gapOf g bad = gp at HG ⊢
       obtain ⟨⟨gi, hgi⟩, hgu, hgl⟩ := HG.out
       have HGI := Lib.hid hgi
       have HGU := Lib.hid hgu
       have hll := loose_len (gap := gp) ts 0 (Nat.zero_le _) HU.out HR.out
       clear hgi hgu HG
       go_wp2_with fail
       go_loopw [7, 8, 9] (fun v at_ i wr => ∃ (k A : Nat) (acc : List UInt8), i = .int .i64 k /\ at_ = .int .i64 A /\ k <= ts.length /\ A <= s.length /\ Hid (BOwn w2.heap.size v acc wr) /\ Hid (acc ++ looseF s gp (ts.drop k) A = looseF s gp ts 0) /\ Hid (toksF s false A = (ts.drop k, none)) /\ Hid (Ut s A) /\ Hid (Below w2.heap.size w2 wr)) (fun _ _ i _ => ts.length - (intOf i).toNat)
       case atStart => exact ⟨0, 0, [], rfl, rfl, Nat.zero_le _, Nat.zero_le _, Lib.hid (BOwn.nil _ _), Lib.hid rfl, HR, HU, Lib.hid (Below.refl _ _)⟩
       case round =>
         obtain ⟨k, A, acc, rfl, rfl, hk, hA, HO, HL, HT, HUA, HB⟩ := hrel
         have hacc : acc.length <= 4194304 := by have := congrArg List.length HL.out; rw [List.length_append] at this; omega
         by_cases hlt : k < ts.length
         · have c1 : decide ((k : Int) < (ts.length : Int)) = true := decide_eq_true (by omega)
           have c2 : decide (k < ts.length) = true := decide_eq_true hlt
           have i0 : 0 <= (k : Int) := by omega
           have i1 : (k : Int) < (ts.length : Int) := by omega
           have i2 : k < cap := by omega
           obtain ⟨gg, o, rfl⟩ := HA.out.place (by rw [toksC_len]; omega)
           have HA2 := Lib.hid (HA.out.below HB.out)
           have a4 := (tok_at6 HA2.out hlt).2.2.2.2.1
           have a5 := (tok_at6 HA2.out hlt).2.2.2.2.2
           have hdk : ts.drop k = ts[k] :: ts.drop (k + 1) := List.drop_eq_getElem_cons hlt
           obtain ⟨HTK, hle, hrest⟩ := toks_cons hA HUA.out (by rw [<- hdk]; exact HT.out)
           obtain ⟨t, ht⟩ : ∃ t, ts[k] = t := ⟨_, rfl⟩
           rw [ht] at a4 a5 HTK hrest hdk
           obtain ⟨x, hx⟩ : ∃ x, gapF s A = x := ⟨_, rfl⟩
           obtain ⟨e, he⟩ : ∃ e, t.fin.toNat = e := ⟨_, rfl⟩
           rw [hx] at HTK hle
           rw [he] at HTK hrest
           have HT4 := HTK.at_
           have HT5 := HTK.fin
           have HCK := Lib.hid (fun (u : World) (hu : Below w2.heap.size w2 u) => (by
             have h4 := (tok_at6 (HA.out.below hu) hlt).2.2.2.2.1
             have h5 := (tok_at6 (HA.out.below hu) hlt).2.2.2.2.2
             rw [ht] at h4 h5
             rw [HT4] at h4
             rw [HT5] at h5
             exact ⟨h4, h5⟩ : u.cell? ⟨gg, o + k * 6 + 4, none⟩ = some (.int .i64 (x : Int)) /\ u.cell? ⟨gg, o + k * 6 + 5, none⟩ = some (.int .i64 (e : Int))))
           rw [HT4] at a4
           rw [HT5] at a5
           clear HT4 HT5
           have hxe := HTK.lt
           have hes := HTK.le
           have hat : t.at_.toNat = x := by have := HTK.at_; omega
           have HN : Hid ((((acc ++ (s.drop A).take (x - A)) ++ gp) ++ [10]) ++ (s.drop x).take (e - x) ++ looseF s gp (ts.drop (k + 1)) e = looseF s gp ts 0) := Lib.hid (by
             rw [<- HL.out, hdk]
             show _ = acc ++ (cutF s A t.at_.toNat ++ (gp ++ (10 :: (cutF s t.at_.toNat t.fin.toNat ++ looseF s gp (ts.drop (k + 1)) t.fin.toNat))))
             rw [hat, he]
             unfold cutF
             simp)
           have HUE := Lib.hid HTK.ue
           have HRE := Lib.hid hrest
           have hbk : blanksF (cutF s A x) false = true := by
             obtain ⟨b, hb1, hb2⟩ := gap_blanks s hA
             rw [hx] at hb1 hb2
             unfold blanksF
             rw [hb1, hb2 (by omega)]; rfl
           have BK := Lib.hid (fun u : World => hbk ▸ blanks_l (cutF s A x) false u (by rw [cutF_len2 (by omega)]; omega))
           unfold cutF at BK
           have d1 : decide ((x : Int) < (A : Int)) = false := decide_eq_false (by omega)
           have d2 : decide ((e : Int) <= (x : Int)) = false := decide_eq_false (by omega)
           have d3 : decide ((s.length : Int) < (e : Int)) = false := decide_eq_false (by omega)
           have x0 : (0 : Int) <= (A : Int) := by omega
           have x1 : (A : Int) <= (x : Int) := by omega
           have x2 : (x : Int) <= (s.length : Int) := by omega
           have x3 : (0 : Int) <= (x : Int) := by omega
           have x4 : (x : Int) <= (e : Int) := by omega
           have x5 : (e : Int) <= (s.length : Int) := by omega
           have hl1 : ((s.drop A).take (x - A)).length = x - A := by simp; omega
           have hl2 : ((s.drop x).take (e - x)).length = e - x := by simp; omega
           obtain ⟨va, vc, rfl⟩ := HO.out.slice
           have hsz := HB.out.size
           clear ht hx he hat HTK hrest hdk hbk HT HL
           go_wp2_with fail
           go_quiet ((go_at_call 19; exact Calls.quiet_of_same (BK.out _)))
           have hgp : gp.length + 1 <= ts.length * (gp.length + 1) := Nat.le_mul_of_pos_left _ (by omega)
           go_wp2_with (first
             | (at_builtin; refine wpList_app_str rfl (.tmp 97) (.tmp 105) rfl w2.heap.size _ acc ((s.drop A).take (x - A)) rfl (bown_drewN HO.out _) rfl (by omega) (by simpa using hsz) ?_; intro v3 w3 hO3 hg3; have HO3 := Lib.hid hO3; have HB3 := Lib.hid (below_own (below_drewN_h HB.out _) (bown_drewN HO.out _) hg3 (Nat.le_refl _)); clear hO3 hg3)
             | (at_builtin; refine wpList_app_str rfl (.tmp 107) (.tmp 108) rfl w2.heap.size _ (acc ++ (s.drop A).take (x - A)) gp rfl HO3.out rfl (by rw [List.length_append]; omega) HB3.out.size ?_; intro v4 w4 hO4 hg4; have HO4 := Lib.hid (hO4.below ((Below.refl _ _).alloc (Nat.le_refl _) (.cells #[.int .u8 10] 5))); have HB4 := Lib.hid ((below_own HB3.out HO3.out hg4 (Nat.le_refl _)).alloc (below_own HB3.out HO3.out hg4 (Nat.le_refl _)).size (.cells #[.int .u8 10] 5)); have HA4 := Lib.hid (gaps_one w4 5); clear hO4 hg4)
             | (at_builtin; refine wpList_app_bytes rfl (.tmp 110) (.tmp 111) rfl w2.heap.size _ ((acc ++ (s.drop A).take (x - A)) ++ gp) [10] rfl HO4.out _ _ _ rfl rfl HA4.out (by rw [List.length_append, List.length_append, List.length_singleton]; omega) HB4.out.size ?_; intro v5 w5 hO5 hg5; have HO5 := Lib.hid hO5; have HB5 := Lib.hid (below_own HB4.out HO4.out hg5 (Nat.le_refl _)); clear hO5 hg5; obtain ⟨b4, b5⟩ : w5.cell? ⟨gg, o + k * 6 + 4, none⟩ = some (.int .i64 (x : Int)) /\ w5.cell? ⟨gg, o + k * 6 + 5, none⟩ = some (.int .i64 (e : Int)) := HCK.out w5 HB5.out))
           go_still_tail 13, (by kernel_rfl)
           have HB6 : Hid (Below w2.heap.size w2 w5.drew) := Lib.hid HB5.out.drew
           have HO6 : Hid (BOwn w2.heap.size v5 (((acc ++ (s.drop A).take (x - A)) ++ gp) ++ [10]) w5.drew) := Lib.hid HO5.out
           go_wp2_with (at_builtin; refine wpList_app_str rfl (.tmp 113) (.tmp 125) rfl w2.heap.size _ (((acc ++ (s.drop A).take (x - A)) ++ gp) ++ [10]) ((s.drop x).take (e - x)) rfl HO6.out rfl (by simp only [List.length_append, List.length_singleton]; omega) HB6.out.size ?_; intro v6 w6 hO6 hg6; have HO7 := Lib.hid hO6; have HB7 := Lib.hid (below_own HB6.out HO6.out hg6 (Nat.le_refl _)); obtain ⟨b4', b5'⟩ : w6.cell? ⟨gg, o + k * 6 + 4, none⟩ = some (.int .i64 (x : Int)) /\ w6.cell? ⟨gg, o + k * 6 + 5, none⟩ = some (.int .i64 (e : Int)) := HCK.out w6 HB7.out; clear hO6 hg6)
           go_roundw
           case rel => exact ⟨k + 1, e, _, by go_num, rfl, by omega, by omega, HO7, HN, HRE, HUE, HB7⟩
           case measure => simp [intOf]; omega
         · have c1 : decide ((k : Int) < (ts.length : Int)) = false := decide_eq_false (by omega)
           have c2 : decide (k < ts.length) = false := decide_eq_false hlt
           have hkt : ts.drop k = [] := List.drop_eq_nil_of_le (by omega)
           rw [hkt] at HL HT
           have HE : Hid (acc ++ s.drop A = looseF s gp ts 0) := HL
           have hgn := toks_nil hA HT.out
           have hbk : blanksF (s.drop A) true = true := by
             obtain ⟨b, hb1, _⟩ := gap_blanks s hA
             rw [hgn] at hb1
             rw [show cutF s A s.length = s.drop A by unfold cutF; rw [List.take_of_length_le (by simp)]] at hb1
             unfold blanksF
             rw [hb1]; rfl
           have tk : List.take (s.length - A) (List.drop A s) = List.drop A s := List.take_of_length_le (by simp)
           have BK := Lib.hid (fun u : World => hbk ▸ blanks_l (s.drop A) true u (by simp; omega))
           have x0 : (0 : Int) <= (A : Int) := by omega
           have x1 : (A : Int) <= (s.length : Int) := by omega
           have hlS : (looseF s gp ts 0).length <= 4194304 := by omega
           obtain ⟨ts', hts1, hts2⟩ := loose_toks HGI.out ts 0 0 (Nat.zero_le _) (Nat.zero_le _) HU.out HR.out (show (looseF s gp ts 0).drop 0 = _ from rfl)
           have hLU := loose_utf HGU.out ts 0 (Nat.zero_le _) HU.out HR.out
           have hLA : allR (looseF s gp ts 0) = (ts', none) := by rw [allR_of hLU]; exact hts1
           have hLn : (allR (looseF s gp ts 0)).2 = none := by rw [hLA]
           have hlf := ends_few (looseF s gp ts 0)
           rw [hLA] at hlf
           have HBW := Lib.hid (HB2.out.trans (HB.out.mono HB2.out.size))
           have A2 := Lib.hid (fun (u : World) (hu : Below w.heap.size w u) => (by
             have := all_ok hLn (w := u) hlS (HTM.out.1.below hu) (HTM.out.2.below hu)
             rw [hLA] at this
             exact this : Calls Tryz.prog 18 #[.string (B (looseF s gp ts 0))] u fun e w' => (∃ a cap, e = .returned (.tuple #[.slice a ts'.length cap, .nilIface]) /\ ts'.length <= cap /\ At w' a (toksC ts')) /\ Below u.heap.size u w'))
           have HTS := Lib.hid hts2
           have hlS2 : acc.length + (s.drop A).length <= 4194304 := by have := congrArg List.length HE.out; rw [List.length_append] at this; omega
           clear HL HT hgn hbk hLU hLA hLn hts1 hts2 hkt
           go_wp2_with (first
             | (go_at_call 19; (with_reducible refine (BK.out _).mono ?_); rintro e w3 ⟨rfl, hw⟩; rw [hw]; clear hw)
             | (at_builtin; refine wpList_app_str rfl (.tmp 137) (.tmp 140) rfl w2.heap.size _ acc (s.drop A) rfl HO.out rfl (by omega) HB.out.size ?_; intro v3 w3 hO3 hg3; have HO3 := Lib.hid (HE.out ▸ hO3); have HB3 := Lib.hid (below_own HB.out HO.out hg3 (Nat.le_refl _)); have cv := BOwn.back HO3.out; clear hO3 hg3))
           have HW3 := Lib.hid (HB2.out.trans (HB3.out.mono HB2.out.size))
           refine (A2.out _ HW3.out).mono ?_
           clear A2 cv
           rintro e w4 ⟨⟨b, cb, rfl, hcb, hatb⟩, hb4⟩
           have HB4 := Lib.hid (HB3.out.trans (hb4.mono HB3.out.size))
           have HV4 : Hid (TView w4 (.slice b ts'.length cb) ts') := Lib.hid ⟨b, cb, rfl, hcb, hatb⟩
           clear hatb hb4
           go_wp2_with fail
           refine (bare_l ts' (.slice b ts'.length cb) w4 HV4.out (by omega)).mono ?_
           rintro e w5 ⟨⟨b5, c5, rfl, hc5, hat5⟩, hb5⟩
           have HB5 := Lib.hid (HB4.out.trans (hb5.mono HB4.out.size))
           have HV5 : Hid (TView w5 (.slice b5 (ts'.map bareT).length c5) (ts'.map bareT)) := Lib.hid ⟨b5, c5, rfl, hc5, hat5⟩
           clear hat5 hb5
           go_wp2_with fail
           refine (bare_l ts (.slice a ts.length cap) w5 ⟨a, cap, rfl, hc, HA.out.below HB5.out⟩ (by omega)).mono ?_
           rintro e w6 ⟨⟨b6, c6, rfl, hc6, hat6⟩, hb6⟩
           have HB6 := Lib.hid (HB5.out.trans (hb6.mono HB5.out.size))
           have HV6 : Hid (TView w6 (.slice b6 (ts.map bareT).length c6) (ts.map bareT)) := Lib.hid ⟨b6, c6, rfl, hc6, hat6⟩
           have hbt : ts'.map bareT = ts.map bareT := HTS.out
           have HV7 := Lib.hid (HV5.out.below hb6)
           rw [hbt] at HV7
           have hlt2 : ts'.length = ts.length := by simpa using congrArg List.length hbt
           have SM := Lib.hid (sameTokens_l (ts.map bareT) (.slice b5 ts'.length c5) (.slice b6 ts.length c6) w6 (by have := HV7.out; rw [List.length_map] at this; rw [hlt2]; exact this) (by have := HV6.out; rw [List.length_map] at this; exact this) (by rw [List.length_map]; omega))
           clear hat6 hb6 hlt2 hbt
           go_wp2_with fail
           refine SM.out.mono ?_
           rintro e w7 ⟨rfl, n7, rfl⟩
           go_wp2_with fail
           go_ret
           exact ⟨rfl, below_drewN_h (HB2.out.trans (HB6.out.mono HB2.out.size)) _⟩
 · have A1 := all_not hr (w := w1) (by omega) (HTM.out.1.below HB1.out) (HTM.out.2.below HB1.out)
   refine A1.mono ?_
   clear A1 hr
   rintro e w2 ⟨⟨x, rfl⟩, hb⟩
   have HB2 := Lib.hid hb
   clear hb
   go_wp2_with fail
   go_ret
   exact ⟨rfl, HB1.out.trans (HB2.out.mono HB1.out.size)⟩
end Go.Proofs.YtdhmpakhdhdebaaGreatDoor
