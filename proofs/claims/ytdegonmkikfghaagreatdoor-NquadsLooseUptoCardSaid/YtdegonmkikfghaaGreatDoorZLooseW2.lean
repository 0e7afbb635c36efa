/-
  tesseralaw09.NquadsLoose: the walk. By an AI agent.
-/
import Derived.Test.YtdegonmkikfghaaGreatDoorZLoose7
namespace Go.Proofs.YtdegonmkikfghaaGreatDoor
open Go.RowKit
set_option maxRecDepth 1000000
theorem picks_fin {l : List QuadL} {ord : List Int} {k : Nat} (h0 : l.length = 0 -> k = 0) (hk : l.length <= k) (x : QuadL) : x ∈ picks l ord k ↔ x ∈ l := by
 by_cases h : l.length = 0
 · rw [h0 h, List.eq_nil_of_length_eq_zero h]; exact Iff.rfl
 · exact picks_mem ord (by omega) hk x
theorem slot_in {l : List QuadL} {x : QuadL} (h : x ∈ l) (j : Nat) : ∃ q ∈ l, slotT x j = q.s \/ slotT x j = q.p \/ slotT x j = q.o \/ slotT x j = q.g := by
 refine ⟨x, h, ?_⟩
 unfold slotT
 split
 · exact .inl rfl
 split
 · exact .inr (.inl rfl)
 split
 · exact .inr (.inr (.inl rfl))
 · exact .inr (.inr (.inr rfl))
set_option maxHeartbeats 8000000 in
theorem loose_in (l : List QuadL) (gap bl : List UInt8) (ord : List Int) (a : Option Addr) (c : Nat) (oa : Option Addr) (oc : Nat) (w : World) (J : LIn l gap bl ord a c oa oc w.heap.size (w.alloc (.cells #[.slice a l.length c, .string (B gap), .string (B bl), .slice oa ord.length oc] 70))) (hf : Fine l) (hg : looseB gap false = true) (hl : l.length <= 1000) (ho : ord.length <= 1000) (hs : gap.length + bl.length <= 1000) (hb : ∀ x ∈ bl, blankC x = true) :
   Calls Tryz.prog 8 #[.agg #[.slice a l.length c, .string (B gap), .string (B bl), .slice oa ord.length oc]] w fun e w' => e = .returned (.bool true) /\ Below w.heap.size w w' := by
 have HJ := Lib.hid J
 have HA : Hid (∀ u, Below (w.alloc (.cells #[.slice a l.length c, .string (B gap), .string (B bl), .slice oa ord.length oc] 70)).heap.size (w.alloc (.cells #[.slice a l.length c, .string (B gap), .string (B bl), .slice oa ord.length oc] 70)) u -> Below w.heap.size w u) := Lib.hid (fun u h => ((Below.refl _ _).alloc (Nat.le_refl _) _).trans (h.mono (by simp)))
 have VL : Hid (∀ u, Below (w.alloc (.cells #[.slice a l.length c, .string (B gap), .string (B bl), .slice oa ord.length oc] 70)).heap.size (w.alloc (.cells #[.slice a l.length c, .string (B gap), .string (B bl), .slice oa ord.length oc] 70)) u -> Calls Tryz.prog 30 #[.slice a l.length c] u fun e w' => e = .returned (.tuple #[.int .i64 (validF l).1, .int .i64 0]) /\ Below u.heap.size u w') := Lib.hid ((validF_ok l).2 hf ▸ J.vl)
 have LO : Hid (∀ u, Calls Tryz.prog 31 #[.string (B gap)] u fun e w' => e = .returned (.bool true) /\ w' = u) := Lib.hid (hg ▸ J.lo)
 have t1 : decide ((1000 : Int) < (l.length : Int)) = false := decide_eq_false (by omega)
 have t1n : decide (1000 < l.length) = false := decide_eq_false (by omega)
 have t2 : decide ((1000 : Int) < (ord.length : Int)) = false := decide_eq_false (by omega)
 have t2n : decide (1000 < ord.length) = false := decide_eq_false (by omega)
 have t3 : decide ((1000 : Int) < (gap.length : Int) + (bl.length : Int)) = false := decide_eq_false (by omega)
 have t3n : decide (1000 < gap.length + bl.length) = false := decide_eq_false (by omega)
 have t3w : IntKind.i64.wrap ((gap.length : Int) + (bl.length : Int)) = (gap.length : Int) + (bl.length : Int) := IntWalk.i64_in _ (by omega)
 have HG := Lib.hid hg
 have HF := Lib.hid hf
 have HBL := Lib.hid hb
 have hn : bl.length + gap.length <= 1000 := by omega
 clear J hf hg hb
 go_enter Tryz.func8, Tryz.ntmps8
 go_wp2_with (first
   | (go_at_call 29; (with_reducible refine HJ.out.aw.mono ?_); rintro e w2 ⟨rfl, hb2⟩; have HB2 := Lib.hid hb2; obtain ⟨x20, x21, x22, x23⟩ := HJ.out.bx _ HB2.out; clear hb2)
   | (go_at_call 30; (with_reducible refine (VL.out _ HB2.out).mono ?_); rintro e w3 ⟨rfl, hb3⟩; have HB3 := Lib.hid (HB2.out.trans (hb3.mono HB2.out.size)); obtain ⟨x30, x31, x32, x33⟩ := HJ.out.bx _ HB3.out; clear hb3)
   | (go_at_call 31; (with_reducible refine (LO.out _).mono ?_); rintro e w3' ⟨rfl, rfl⟩))
 go_at_call 11
 ((with_reducible refine (HJ.out.hv _ HB3.out).mono ?_); rintro e w4 ⟨⟨hvy, rfl⟩, hb4⟩; have HB4 := Lib.hid (HB3.out.trans (hb4.mono HB3.out.size)); obtain ⟨x40, x41, x42, x43⟩ := HJ.out.bx _ HB4.out; clear hb4)
 cases hvy
 case true =>
   go_wp2_with fail
   go_ret
   exact ⟨rfl, HA.out _ HB4.out⟩
 case false =>
   go_wp2_with fail
   go_loop [5] (fun i => ∃ kb : Nat, i = .int .i64 kb /\ kb <= bl.length) (fun i => bl.length - (intOf i).toNat)
   case atStart => exact ⟨0, rfl, Nat.zero_le _⟩
   case round =>
     obtain ⟨kb, rfl, hkb⟩ := hrel
     by_cases hltb : kb < bl.length
     · have c1 : decide ((kb : Int) < (bl.length : Int)) = true := decide_eq_true (by omega)
       have m0 : 0 <= (kb : Int) := by omega
       have m1 : (kb : Int) < (bl.length : Int) := by omega
       have hbk := HBL.out bl[kb] (List.getElem_mem hltb)
       by_cases h32 : bl[kb] = 32
       · have e5 : ((bl[kb].toNat : Int) != 32) = false := by rw [h32]; rfl
         clear h32 hbk
         go_wp2_with fail
         go_round
         case rel => exact ⟨kb + 1, by go_num, by omega⟩
         case measure => simp [intOf]; omega
       have e5 : ((bl[kb].toNat : Int) != 32) = true := bne_iff_ne.2 (bne_iff_ne.1 (byte_nei (d := 32) h32))
       have h9 : bl[kb] = 9 := (blank_iff.1 hbk).resolve_left h32
       have e6 : ((bl[kb].toNat : Int) != 9) = false := by rw [h9]; rfl
       clear h32 h9 hbk
       go_wp2_with fail
       go_round
       case rel => exact ⟨kb + 1, by go_num, by omega⟩
       case measure => simp [intOf]; omega
     · have c1 : decide ((kb : Int) < (bl.length : Int)) = false := decide_eq_false (by omega)
       have c1n : decide (kb < bl.length) = false := decide_eq_false hltb
       go_wp2_with fail
       clear c1 c1n hltb hkb
       go_loopw [6, 7] (fun v i wr => ∃ k : Nat, i = .int .i64 k /\ k <= l.length + ord.length /\ Hid (l.length = 0 -> k = 0) /\ Hid (BOwn (w.alloc (.cells #[.slice a l.length c, .string (B gap), .string (B bl), .slice oa ord.length oc] 70)).heap.size v (bodyL gap bl (picks l ord k)) wr) /\ Hid (Below (w.alloc (.cells #[.slice a l.length c, .string (B gap), .string (B bl), .slice oa ord.length oc] 70)).heap.size (w.alloc (.cells #[.slice a l.length c, .string (B gap), .string (B bl), .slice oa ord.length oc] 70)) wr)) (fun _ i _ => l.length + ord.length - (intOf i).toNat)
       case atStart => exact ⟨0, rfl, Nat.zero_le _, Lib.hid (fun _ => rfl), Lib.hid (BOwn.nil _ _), HB4⟩
       case round =>
         obtain ⟨k, rfl, hk, HK0, HO, HB⟩ := hrel
         clear HB4 x40 x41 x42 x43
         obtain ⟨wo, rfl⟩ : ∃ wo : World, wo = wr := ⟨_, rfl⟩
         obtain ⟨xo0, xo1, xo2, xo3⟩ := HJ.out.bx _ HB.out
         have hsum : IntKind.i64.wrap ((l.length : Int) + (ord.length : Int)) = (l.length : Int) + (ord.length : Int) := IntWalk.i64_in _ (by omega)
         by_cases hlt : k < l.length + ord.length
         · have c1 : decide ((k : Int) < (l.length : Int) + (ord.length : Int)) = true := decide_eq_true (by omega)
           by_cases h0 : l.length = 0
           · as_aux_lemma =>
             have c2 : decide ((l.length : Int) <= (k : Int)) = true := decide_eq_true (by omega)
             have c2n : decide (l.length <= k) = true := decide_eq_true (by omega)
             have c3 : ((l.length : Int) == 0) = true := beq_iff_eq.2 (by omega)
             have HM : Hid (∀ x, x ∈ picks l ord k ↔ x ∈ l) := Lib.hid (picks_fin HK0.out (by omega))
             clear h0
             obtain ⟨acc, hacc⟩ : ∃ acc, bodyL gap bl (picks l ord k) = acc := ⟨_, rfl⟩
             have HAL := body_len (gap := gap) (bl := bl) hn (picks l ord k) (fun q hq => HF.out.2.1 q ((HM.out q).1 hq))
             rw [picks_len, hacc] at HAL
             have hal : acc.length <= 6304400000 := by omega
             clear HAL
             rw [hacc] at HO
             have HO50 := HO
             have HB50 := HB
             obtain ⟨L, hL⟩ : ∃ L, acc ++ 10 :: gap = L := ⟨_, rfl⟩
             have HLL : Hid ((acc ++ [10]) ++ gap = L) := Lib.hid (by rw [<- hL]; simp)
             have HPS : Hid (∀ va vc u, Below (w.alloc (.cells #[.slice a l.length c, .string (B gap), .string (B bl), .slice oa ord.length oc] 70)).heap.size (w.alloc (.cells #[.slice a l.length c, .string (B gap), .string (B bl), .slice oa ord.length oc] 70)) u -> BOwn (w.alloc (.cells #[.slice a l.length c, .string (B gap), .string (B bl), .slice oa ord.length oc] 70)).heap.size (.slice va L.length vc) L u -> L.length <= 67108864 -> Calls Tryz.prog 25 #[.slice va L.length vc] u fun e w' => (∃ pa ca, e = .returned (.tuple #[.slice pa l.length ca, .nilIface]) /\ QView w' (.slice pa l.length ca) l) /\ Below u.heap.size u w') := Lib.hid (fun va vc u h1 h2 h3 => by
               subst hL
               subst hacc
               exact HJ.out.ps _ _ va vc u h1 h2 HG.out HBL.out (by omega) HF.out (by omega) HM.out h3)
             clear hL hacc
             have HO50a := Lib.hid (HO50.out.below ((Below.refl _ _).alloc (Nat.le_refl _) (.cells #[.int .u8 10] 5)))
             have HB50a := Lib.hid (HB50.out.alloc HB50.out.size (.cells #[.int .u8 10] 5))
             have HA50 := Lib.hid (At_byte wo 10 5)
             obtain ⟨x500, x501, x502, x503⟩ := HJ.out.bx _ HB50a.out
             by_cases hLs : L.length <= 67108864
             · have z1 : decide ((67108864 : Int) < (L.length : Int)) = false := decide_eq_false (by omega)
               have z1n : decide (67108864 < L.length) = false := decide_eq_false (by omega)
               have HLS := Lib.hid hLs
               clear hLs
               go_wp2_with (first
                 | (at_builtin; refine wpList_app_bytes rfl (.tmp 194) (.tmp 195) rfl (w.alloc (.cells #[.slice a l.length c, .string (B gap), .string (B bl), .slice oa ord.length oc] 70)).heap.size _ acc [10] rfl HO50a.out _ _ _ rfl rfl HA50.out (by (try simp only [List.length_singleton]); omega) HB50a.out.size ?_; intro v51 w51 hO hg; have HO51 := Lib.hid hO; have HB51 := Lib.hid (below_own HB50a.out HO50a.out hg (Nat.le_refl _)); obtain ⟨x510, x511, x512, x513⟩ := HJ.out.bx _ HB51.out; clear hO hg)
                 | (at_builtin; refine wpList_app_str rfl (.tmp 197) (.tmp 199) rfl (w.alloc (.cells #[.slice a l.length c, .string (B gap), .string (B bl), .slice oa ord.length oc] 70)).heap.size _ (acc ++ [10]) gap rfl HO51.out rfl (by (try simp only [List.length_append, List.length_singleton]); omega) HB51.out.size ?_; intro v52 w52 hO hg; have HO52 := Lib.hid hO; have HB52 := Lib.hid (below_own HB51.out HO51.out hg (Nat.le_refl _)); have hO6 : BOwn (w.alloc (.cells #[.slice a l.length c, .string (B gap), .string (B bl), .slice oa ord.length oc] 70)).heap.size v52 L w52 := HLL.out ▸ hO; obtain ⟨a52, c52, rfl⟩ := hO6.slice; have HOL := Lib.hid hO6; clear hO6; obtain ⟨x520, x521, x522, x523⟩ := HJ.out.bx _ HB52.out; clear hO hg)
                 | (go_at_call 25; (with_reducible refine (HPS.out _ _ _ HB52.out HOL.out HLS.out).mono ?_); rintro e w53 ⟨⟨pa, ca, rfl, hq53⟩, hb53⟩; have HB53 := Lib.hid (HB52.out.trans (hb53.mono HB52.out.size)); have HQ53 := Lib.hid hq53; obtain ⟨x530, x531, x532, x533⟩ := HJ.out.bx _ HB53.out; clear hb53 hq53)
                 | (go_at_call 27; (with_reducible refine (HJ.out.sq _ _ HB53.out HQ53.out).mono ?_); rintro e w54 ⟨rfl, hb54⟩; have HB54 := Lib.hid (HB53.out.trans (hb54.mono HB53.out.size)); clear hb54))
               go_ret
               exact ⟨rfl, HA.out _ HB54.out⟩
             · have z1 : decide ((67108864 : Int) < (L.length : Int)) = true := decide_eq_true (by omega)
               have z1n : decide (67108864 < L.length) = true := decide_eq_true (by omega)
               have HLS : Hid (67108864 < L.length) := Lib.hid (by omega)
               clear hLs
               go_wp2_with (first
                 | (at_builtin; refine wpList_app_bytes rfl (.tmp 194) (.tmp 195) rfl (w.alloc (.cells #[.slice a l.length c, .string (B gap), .string (B bl), .slice oa ord.length oc] 70)).heap.size _ acc [10] rfl HO50a.out _ _ _ rfl rfl HA50.out (by (try simp only [List.length_singleton]); omega) HB50a.out.size ?_; intro v51 w51 hO hg; have HO51 := Lib.hid hO; have HB51 := Lib.hid (below_own HB50a.out HO50a.out hg (Nat.le_refl _)); obtain ⟨x510, x511, x512, x513⟩ := HJ.out.bx _ HB51.out; clear hO hg)
                 | (at_builtin; refine wpList_app_str rfl (.tmp 197) (.tmp 199) rfl (w.alloc (.cells #[.slice a l.length c, .string (B gap), .string (B bl), .slice oa ord.length oc] 70)).heap.size _ (acc ++ [10]) gap rfl HO51.out rfl (by (try simp only [List.length_append, List.length_singleton]); omega) HB51.out.size ?_; intro v52 w52 hO hg; have HO52 := Lib.hid hO; have HB52 := Lib.hid (below_own HB51.out HO51.out hg (Nat.le_refl _)); have hO6 : BOwn (w.alloc (.cells #[.slice a l.length c, .string (B gap), .string (B bl), .slice oa ord.length oc] 70)).heap.size v52 L w52 := HLL.out ▸ hO; obtain ⟨a52, c52, rfl⟩ := hO6.slice; have HOL := Lib.hid hO6; clear hO6; obtain ⟨x520, x521, x522, x523⟩ := HJ.out.bx _ HB52.out; clear hO hg)
                 | (go_at_call 25; (with_reducible refine (nqParse_long _ _ _ _ HLS.out).mono ?_); rintro e w53 ⟨⟨vm, evm, rfl⟩, hb53⟩; have HB53 := Lib.hid (HB52.out.trans (hb53.mono HB52.out.size)); clear hb53))
               go_ret
               exact ⟨rfl, HA.out _ HB53.out⟩
           · have h1 : 0 < l.length := by omega
             have HNE : Hid (¬ l.length = 0) := Lib.hid h0
             have c3 : ((l.length : Int) == 0) = false := beq_eq_false_iff_ne.2 (by omega)
             obtain ⟨b, o, rfl⟩ := (HJ.out.vw _ HB.out).place h1
             have HAL := body_len (gap := gap) (bl := bl) hn (picks l ord k) (fun q hq => HF.out.2.1 q (picks_sub ord h1 k q hq))
             rw [picks_len] at HAL
             obtain ⟨kk, hkk0⟩ : ∃ kk, pickK l.length ord k = kk := ⟨_, rfl⟩
             have hkk : kk < l.length := hkk0 ▸ pickK_lt ord k h1
             obtain ⟨x, hx⟩ : ∃ x, l[kk] = x := ⟨_, rfl⟩
             have HX : Hid (x ∈ l /\ l[kk] = x) := Lib.hid ⟨hx ▸ List.getElem_mem hkk, hx⟩
             have HPX : Hid (pickQ l ord k = x) := Lib.hid ((pickQ_get ord k kk hkk0 hkk).trans hx)
             have HQ0 : Hid (quadN x = 0) := Lib.hid (HF.out.2.1 x HX.out.1)
             obtain ⟨ac0, hac0⟩ : ∃ ac0, bodyL gap bl (picks l ord k) = ac0 := ⟨_, rfl⟩
             have HAC := Lib.hid hac0
             rw [hac0] at HO HAL
             have hal : ac0.length <= 6304400000 := by omega
             have kk0 : 0 <= (kk : Int) := by omega
             have kk1 : (kk : Int) < (l.length : Int) := by omega
             clear HAL hac0 hx h0 HK0
             go_upto_region 16 with fail
             go_cut [100] from 78 to 193 (fun s wx => s = .bool false /\ wx = wo)
             case first =>
               by_cases hkl : k < l.length
               · have c2 : decide ((l.length : Int) <= (k : Int)) = false := decide_eq_false (by omega)
                 have c2n : decide (l.length <= k) = false := decide_eq_false (by omega)
                 go_wp2_with fail
                 go_meet
                 case rel => exact ⟨rfl, rfl⟩
               · have c2 : decide ((l.length : Int) <= (k : Int)) = true := decide_eq_true (by omega)
                 have c2n : decide (l.length <= k) = true := decide_eq_true (by omega)
                 go_wp2_with fail
                 go_meet
                 case rel => exact ⟨rfl, rfl⟩
             case rest =>
               obtain ⟨rfl, hwo⟩ := hcut
               subst hwo
               try (obtain ⟨wo, rfl⟩ : ∃ wo : World, wo = wc := ⟨_, rfl⟩)
               go_upto_if 105 with fail
               go_cut [8] from 78 to 193 (fun s wx => s = .int .i64 (kk : Int) /\ Below (w.alloc (.cells #[.slice (some ⟨b, o, none⟩) l.length c, .string (B gap), .string (B bl), .slice oa ord.length oc] 70)).heap.size (w.alloc (.cells #[.slice (some ⟨b, o, none⟩) l.length c, .string (B gap), .string (B bl), .slice oa ord.length oc] 70)) wx /\ (∀ (b : Nat) (v : Value) (x : List UInt8), BOwn b v x wo -> BOwn b v x wx))
               case first =>
                 by_cases hkl : k < l.length
                 · have c2 : decide ((l.length : Int) <= (k : Int)) = false := decide_eq_false (by omega)
                   have c2n : decide (l.length <= k) = false := decide_eq_false (by omega)
                   have hkw : k + kk + 1 = l.length := by unfold pickK at hkk0; rw [if_pos hkl] at hkk0; omega
                   have hwa : (l.length : Int) - 1 - (k : Int) = (kk : Int) := by omega
                   clear hkk0
                   go_wp2_with fail
                   go_meet
                   case rel => exact ⟨rfl, HB.out, fun _ _ _ h => h⟩
                 · have c2 : decide ((l.length : Int) <= (k : Int)) = true := decide_eq_true (by omega)
                   have c2n : decide (l.length <= k) = true := decide_eq_true (by omega)
                   obtain ⟨m, hm⟩ : ∃ m, k - l.length = m := ⟨_, rfl⟩
                   have hmo : m < ord.length := by omega
                   obtain ⟨ob, oo, rfl⟩ := (HJ.out.oo _ HB.out).place (by simp; omega)
                   obtain ⟨z, hz⟩ : ∃ z, ord[m] = z := ⟨_, rfl⟩
                   have ocell : wo.cell? ⟨ob, oo + m, none⟩ = some (.int .i64 z) := by have h := (HJ.out.oo _ HB.out).get (j := m) (by simpa using hmo); simpa [hz] using h
                   have hwm : IntKind.i64.wrap ((k : Int) - (l.length : Int)) = (m : Int) := by rw [IntWalk.i64_in _ (by omega)]; omega
                   have m0 : 0 <= (m : Int) := by omega
                   have m1 : (m : Int) < (ord.length : Int) := by omega
                   have hwz : IntKind.u64.wrap z = z % 18446744073709551616 := IntKind.wrap_u64 z
                   have hwl : IntKind.u64.wrap (l.length : Int) = (l.length : Int) := by rw [IntKind.wrap_u64]; omega
                   have hkz : (z % 18446744073709551616) % (l.length : Int) = (kk : Int) := by
                     unfold pickK at hkk0
                     rw [if_neg hkl, hm, show ord.getD m 0 = z by rw [<- hz]; simp [hmo]] at hkk0
                     have := Int.emod_nonneg (z % 18446744073709551616) (show (l.length : Int) ≠ 0 by omega)
                     omega
                   clear hkk0 hz hm
                   go_wp2_with fail
                   go_quiet (fail)
                   go_wp2_with fail
                   go_meet
                   case rel => exact ⟨rfl, HB.out.trans (show Below _ wo (wo.drewN nq) from ⟨rfl, rfl, rfl, Nat.le_refl _, fun _ _ => rfl⟩), fun _ _ _ h => bown_drewN h nq⟩
               case rest =>
                 obtain ⟨rfl, hbw, hown⟩ := hcut
                 have HBc := Lib.hid hbw
                 have HOc := Lib.hid (hown _ _ _ HO.out)
                 clear hbw hown xo0 xo1 xo2 xo3 HO HB
                 obtain ⟨xo0, xo1, xo2, xo3⟩ := HJ.out.bx _ HBc.out
                 go_wp2_with (first
                   | (at_builtin; refine wpList_app_str rfl (.tmp 128) (.tmp 130) rfl (w.alloc (.cells #[.slice (some ⟨b, o, none⟩) l.length c, .string (B gap), .string (B bl), .slice oa ord.length oc] 70)).heap.size _ ac0 gap rfl HOc.out rfl (by (try simp only [List.length_append, List.length_singleton]); omega) HBc.out.size ?_; intro v21 w21 hO hg; have HO21 := Lib.hid hO; have HB21 := Lib.hid (below_own HBc.out HOc.out hg (Nat.le_refl _)); have HO21a := Lib.hid (HO21.out.below ((Below.refl _ _).alloc (Nat.le_refl _) (.cells #[.int .u8 10] 5))); have HB21a := Lib.hid (HB21.out.alloc HB21.out.size (.cells #[.int .u8 10] 5)); have HA21 := Lib.hid (At_byte w21 10 5); obtain ⟨x210, x211, x212, x213⟩ := HJ.out.bx _ HB21.out; clear hO hg)
                   | (at_builtin; refine wpList_app_bytes rfl (.tmp 132) (.tmp 133) rfl (w.alloc (.cells #[.slice (some ⟨b, o, none⟩) l.length c, .string (B gap), .string (B bl), .slice oa ord.length oc] 70)).heap.size _ (ac0 ++ gap) [10] rfl HO21a.out _ _ _ rfl rfl HA21.out (by (try simp only [List.length_append, List.length_singleton]); omega) HB21a.out.size ?_; intro v22 w22 hO hg; have HO22 := Lib.hid hO; have HB22 := Lib.hid (below_own HB21a.out HO21a.out hg (Nat.le_refl _)); obtain ⟨x220, x221, x222, x223⟩ := HJ.out.bx _ HB22.out; obtain ⟨c0, c1, c2, c3, c4, c5, c6, c7, c8, c9, c10, c11, c12, c13, c14, c15⟩ := cells16 (HX.out.2 ▸ (HJ.out.vw _ HB22.out).get hkk); clear hO hg))
                 have hacx : ((ac0 ++ gap) ++ [10]).length = ac0.length + (gap.length + 1) := by simp only [List.length_append, List.length_singleton]; omega
                 have HBQ := Lib.hid ((HB22.out.alloc HB22.out.size (.cells #[.int .i64 x.s.kind, .string (B x.s.text), .string (B x.s.type), .string (B x.s.lang), .int .i64 x.p.kind, .string (B x.p.text), .string (B x.p.type), .string (B x.p.lang), .int .i64 x.o.kind, .string (B x.o.text), .string (B x.o.type), .string (B x.o.lang), .int .i64 x.g.kind, .string (B x.g.text), .string (B x.g.type), .string (B x.g.lang)] 36)).alloc (by have := HB22.out.size; simp at this ⊢; omega) (.cells #[.int .i64 x.s.kind, .string (B x.s.text), .string (B x.s.type), .string (B x.s.lang), .int .i64 x.p.kind, .string (B x.p.text), .string (B x.p.type), .string (B x.p.lang), .int .i64 x.o.kind, .string (B x.o.text), .string (B x.o.type), .string (B x.o.lang), .int .i64 x.g.kind, .string (B x.g.text), .string (B x.g.type), .string (B x.g.lang)] 72))
                 have HOQ := Lib.hid (HO22.out.below ((((Below.refl _ w22).alloc (Nat.le_refl _) (.cells #[.int .i64 x.s.kind, .string (B x.s.text), .string (B x.s.type), .string (B x.s.lang), .int .i64 x.p.kind, .string (B x.p.text), .string (B x.p.type), .string (B x.p.lang), .int .i64 x.o.kind, .string (B x.o.text), .string (B x.o.type), .string (B x.o.lang), .int .i64 x.g.kind, .string (B x.g.text), .string (B x.g.type), .string (B x.g.lang)] 36))).alloc (by simp) (.cells #[.int .i64 x.s.kind, .string (B x.s.text), .string (B x.s.type), .string (B x.s.lang), .int .i64 x.p.kind, .string (B x.p.text), .string (B x.p.type), .string (B x.p.lang), .int .i64 x.o.kind, .string (B x.o.text), .string (B x.o.type), .string (B x.o.lang), .int .i64 x.g.kind, .string (B x.g.text), .string (B x.g.type), .string (B x.g.lang)] 72)))
                 have HTQ : Hid (((w22.alloc (.cells #[.int .i64 x.s.kind, .string (B x.s.text), .string (B x.s.type), .string (B x.s.lang), .int .i64 x.p.kind, .string (B x.p.text), .string (B x.p.type), .string (B x.p.lang), .int .i64 x.o.kind, .string (B x.o.text), .string (B x.o.type), .string (B x.o.lang), .int .i64 x.g.kind, .string (B x.g.text), .string (B x.g.type), .string (B x.g.lang)] 36)).alloc (.cells #[.int .i64 x.s.kind, .string (B x.s.text), .string (B x.s.type), .string (B x.s.lang), .int .i64 x.p.kind, .string (B x.p.text), .string (B x.p.type), .string (B x.p.lang), .int .i64 x.o.kind, .string (B x.o.text), .string (B x.o.type), .string (B x.o.lang), .int .i64 x.g.kind, .string (B x.g.text), .string (B x.g.type), .string (B x.g.lang)] 72)).heap[w22.heap.size + 1]? = some (.cells (quadC x).toArray 72 (0, 0))) := Lib.hid (by have h := World.alloc_heap_new (w22.alloc (.cells #[.int .i64 x.s.kind, .string (B x.s.text), .string (B x.s.type), .string (B x.s.lang), .int .i64 x.p.kind, .string (B x.p.text), .string (B x.p.type), .string (B x.p.lang), .int .i64 x.o.kind, .string (B x.o.text), .string (B x.o.type), .string (B x.o.lang), .int .i64 x.g.kind, .string (B x.g.text), .string (B x.g.type), .string (B x.g.lang)] 36)) (.cells #[.int .i64 x.s.kind, .string (B x.s.text), .string (B x.s.type), .string (B x.s.lang), .int .i64 x.p.kind, .string (B x.p.text), .string (B x.p.type), .string (B x.p.lang), .int .i64 x.o.kind, .string (B x.o.text), .string (B x.o.type), .string (B x.o.lang), .int .i64 x.g.kind, .string (B x.g.text), .string (B x.g.type), .string (B x.g.lang)] 72); rw [World.size_alloc] at h; exact h)
                 obtain ⟨acc, hacc⟩ : ∃ acc, (ac0 ++ gap) ++ [10] = acc := ⟨_, rfl⟩
                 rw [hacc] at HOQ hacx
                 have HACC := Lib.hid hacc
                 clear hacc
                 go_loopw [6, 11] (fun v j wi => ∃ jj : Nat, j = .int .i64 jj /\ jj <= 4 /\ Hid (BOwn (w.alloc (.cells #[.slice (some ⟨b, o, none⟩) l.length c, .string (B gap), .string (B bl), .slice oa ord.length oc] 70)).heap.size v (acc ++ partL bl x jj) wi) /\ Hid (Below (w.alloc (.cells #[.slice (some ⟨b, o, none⟩) l.length c, .string (B gap), .string (B bl), .slice oa ord.length oc] 70)).heap.size (w.alloc (.cells #[.slice (some ⟨b, o, none⟩) l.length c, .string (B gap), .string (B bl), .slice oa ord.length oc] 70)) wi) /\ Hid (wi.heap[w22.heap.size + 1]? = some (.cells (quadC x).toArray 72 (0, 0)))) (fun _ j _ => 4 - (intOf j).toNat)
                 case atStart => exact ⟨0, rfl, by omega, Lib.hid (by rw [partL, List.append_nil]; exact HOQ.out), HBQ, HTQ⟩
                 case round =>
                   obtain ⟨jj, rfl, hj, HO30, HB30, HT30⟩ := hrel
                   obtain ⟨x300, x301, x302, x303⟩ := HJ.out.bx _ HB30.out
                   clear HOQ HBQ HTQ
                   by_cases hj4 : jj < 4
                   · have j1 : decide ((jj : Int) < 4) = true := decide_eq_true (by omega)
                     have j0 : 0 <= (jj : Int) := by omega
                     have j2 : (jj : Int) < 4 := by omega
                     have HJ4 := Lib.hid hj4
                     have hpl := part_len (bl := bl) HQ0.out jj
                     have hpl2 : (partL bl x jj).length <= 3150004 := Nat.le_trans hpl (Nat.le_trans (Nat.mul_le_mul (show jj <= 4 by omega) (show 786501 + bl.length <= 787501 by omega)) (by decide))
                     replace hpl := hpl2
                     clear hpl2
                     obtain ⟨s0, s1, s2, s3⟩ := slot_cells HT30.out hj4
                     simp only [Nat.mul_comm] at s0 s1 s2 s3
                     have hso := slot_ok HQ0.out jj
                     by_cases hk0 : (slotT x jj).kind = 0
                     · clear hso
                       have e0 : ((slotT x jj).kind == 0) = true := beq_iff_eq.2 hk0
                       have HP : Hid (partL bl x (jj + 1) = partL bl x jj) := Lib.hid (by rw [partL, pieceL, if_pos hk0, List.append_nil])
                       clear hk0
                       go_wp2_with fail
                       go_roundw
                       case rel => exact ⟨jj + 1, by go_num, by omega, Lib.hid (by rw [HP.out]; exact HO30.out), HB30, HT30⟩
                       case measure => simp [intOf]; omega
                     have htn := hso.resolve_left hk0
                     clear hso
                     by_cases hk1 : (slotT x jj).kind = 1
                     · have TX2 := Lib.hid (HJ.out.tx (slotT x jj) (slot_in HX.out.1 jj) htn)
                       have htl := (text_len htn).1
                       have e1 : ((slotT x jj).kind != 1) = false := by rw [hk1]; rfl
                       have HP : Hid (partL bl x (jj + 1) = (partL bl x jj ++ bl) ++ textF (slotT x jj)) := Lib.hid (by rw [partL, pieceL, if_neg hk0, putT, sepF, if_neg (fun h => h.1 hk1)]; simp)
                       have e0 : ((slotT x jj).kind == 0) = false := beq_eq_false_iff_ne.2 hk0
                       clear hk0 htn hk1
                       obtain ⟨t, ht⟩ : ∃ t, slotT x jj = t := ⟨_, rfl⟩
                       rw [ht] at TX2 htl HP e0 e1 s0 s1 s2 s3
                       obtain ⟨p, hp⟩ : ∃ p, partL bl x jj = p := ⟨_, rfl⟩
                       rw [hp] at HO30 HP hpl
                       clear hp
                       go_wp2_with (first
                         | (go_at_call 32; (with_reducible refine (TX2.out _ HB30.out).mono ?_); rintro e w31 ⟨rfl, hb31⟩; have HO31 := Lib.hid (HO30.out.below hb31); have HB31 := Lib.hid (HB30.out.trans (hb31.mono HB30.out.size)); have HT31 : Hid (w31.heap[w22.heap.size + 1]? = some (.cells (quadC x).toArray 72 (0, 0))) := Lib.hid ((hb31.block _ (Array.getElem?_eq_some_iff.1 HT30.out).1).trans HT30.out); obtain ⟨x310, x311, x312, x313⟩ := HJ.out.bx _ HB31.out; clear hb31)
                         | (at_builtin; refine wpList_app_str rfl (.tmp 167) (.tmp 169) rfl (w.alloc (.cells #[.slice (some ⟨b, o, none⟩) l.length c, .string (B gap), .string (B bl), .slice oa ord.length oc] 70)).heap.size _ (acc ++ p) bl rfl HO31.out rfl (by (try simp only [List.length_append]); omega) HB31.out.size ?_; intro v32 w32 hO hg; have HO32 := Lib.hid hO; have HB32 := Lib.hid (below_own HB31.out HO31.out hg (Nat.le_refl _)); have HT32 : Hid (w32.heap[w22.heap.size + 1]? = some (.cells (quadC x).toArray 72 (0, 0))) := Lib.hid (keep_block HO31.out HT31.out (by decide) hg); obtain ⟨x320, x321, x322, x323⟩ := HJ.out.bx _ HB32.out; clear hO hg)
                         | (at_builtin; refine wpList_app_str rfl (.tmp 171) (.tmp 172) rfl (w.alloc (.cells #[.slice (some ⟨b, o, none⟩) l.length c, .string (B gap), .string (B bl), .slice oa ord.length oc] 70)).heap.size _ ((acc ++ p) ++ bl) (textF t) rfl HO32.out rfl (by (try simp only [List.length_append]); omega) HB32.out.size ?_; intro v33 w33 hO hg; have HO33 := Lib.hid hO; have HB33 := Lib.hid (below_own HB32.out HO32.out hg (Nat.le_refl _)); have HT33 : Hid (w33.heap[w22.heap.size + 1]? = some (.cells (quadC x).toArray 72 (0, 0))) := Lib.hid (keep_block HO32.out HT32.out (by decide) hg); obtain ⟨x330, x331, x332, x333⟩ := HJ.out.bx _ HB33.out; obtain ⟨y330, _, _, _⟩ := slot_cells HT33.out HJ4.out; rw [ht] at y330; simp only [Nat.mul_comm] at y330; clear hO hg))
                       go_roundw
                       case rel => exact ⟨jj + 1, by go_num, by omega, Lib.hid (by rw [HP.out, <- List.append_assoc, <- List.append_assoc]; exact HO33.out), HB33, HT33⟩
                       case measure => simp [intOf]; omega
                     by_cases hbl : bl = []
                     · have TX2 := Lib.hid (HJ.out.tx (slotT x jj) (slot_in HX.out.1 jj) htn)
                       have htl := (text_len htn).1
                       have e1 : ((slotT x jj).kind != 1) = true := bne_iff_ne.2 hk1
                       have HP : Hid (partL bl x (jj + 1) = ((partL bl x jj ++ bl) ++ textF (slotT x jj)) ++ [32]) := Lib.hid (by rw [partL, pieceL, if_neg hk0, putT, sepF, if_pos ⟨hk1, hbl⟩]; simp)
                       have e0 : ((slotT x jj).kind == 0) = false := beq_eq_false_iff_ne.2 hk0
                       have e2l : bl.isEmpty = true := by rw [hbl]; rfl
                       have HBLE := Lib.hid hbl
                       clear hbl
                       clear hk0 htn hk1
                       obtain ⟨t, ht⟩ : ∃ t, slotT x jj = t := ⟨_, rfl⟩
                       rw [ht] at TX2 htl HP e0 e1 s0 s1 s2 s3
                       obtain ⟨p, hp⟩ : ∃ p, partL bl x jj = p := ⟨_, rfl⟩
                       rw [hp] at HO30 HP hpl
                       clear hp
                       go_wp2_with (first
                         | (go_at_call 32; (with_reducible refine (TX2.out _ HB30.out).mono ?_); rintro e w31 ⟨rfl, hb31⟩; have HO31 := Lib.hid (HO30.out.below hb31); have HB31 := Lib.hid (HB30.out.trans (hb31.mono HB30.out.size)); have HT31 : Hid (w31.heap[w22.heap.size + 1]? = some (.cells (quadC x).toArray 72 (0, 0))) := Lib.hid ((hb31.block _ (Array.getElem?_eq_some_iff.1 HT30.out).1).trans HT30.out); obtain ⟨x310, x311, x312, x313⟩ := HJ.out.bx _ HB31.out; clear hb31)
                         | (at_builtin; refine wpList_app_str rfl (.tmp 167) (.tmp 169) rfl (w.alloc (.cells #[.slice (some ⟨b, o, none⟩) l.length c, .string (B gap), .string (B bl), .slice oa ord.length oc] 70)).heap.size _ (acc ++ p) bl rfl HO31.out rfl (by (try simp only [List.length_append]); omega) HB31.out.size ?_; intro v32 w32 hO hg; have HO32 := Lib.hid hO; have HB32 := Lib.hid (below_own HB31.out HO31.out hg (Nat.le_refl _)); have HT32 : Hid (w32.heap[w22.heap.size + 1]? = some (.cells (quadC x).toArray 72 (0, 0))) := Lib.hid (keep_block HO31.out HT31.out (by decide) hg); obtain ⟨x320, x321, x322, x323⟩ := HJ.out.bx _ HB32.out; clear hO hg)
                         | (at_builtin; refine wpList_app_str rfl (.tmp 171) (.tmp 172) rfl (w.alloc (.cells #[.slice (some ⟨b, o, none⟩) l.length c, .string (B gap), .string (B bl), .slice oa ord.length oc] 70)).heap.size _ ((acc ++ p) ++ bl) (textF t) rfl HO32.out rfl (by (try simp only [List.length_append]); omega) HB32.out.size ?_; intro v33 w33 hO hg; have HO33 := Lib.hid hO; have HB33 := Lib.hid (below_own HB32.out HO32.out hg (Nat.le_refl _)); have HO33a := Lib.hid (HO33.out.below ((Below.refl _ _).alloc (Nat.le_refl _) (.cells #[.int .u8 32] 5))); have HB33a := Lib.hid (HB33.out.alloc HB33.out.size (.cells #[.int .u8 32] 5)); have HA33 := Lib.hid (At_byte w33 32 5); have HT33 : Hid (w33.heap[w22.heap.size + 1]? = some (.cells (quadC x).toArray 72 (0, 0))) := Lib.hid (keep_block HO32.out HT32.out (by decide) hg); obtain ⟨x330, x331, x332, x333⟩ := HJ.out.bx _ HB33.out; obtain ⟨y330, _, _, _⟩ := slot_cells HT33.out HJ4.out; rw [ht] at y330; simp only [Nat.mul_comm] at y330; clear hO hg)
                         | (at_builtin; refine wpList_app_bytes rfl (.tmp 184) (.tmp 185) rfl (w.alloc (.cells #[.slice (some ⟨b, o, none⟩) l.length c, .string (B gap), .string (B bl), .slice oa ord.length oc] 70)).heap.size _ (((acc ++ p) ++ bl) ++ textF t) [32] rfl HO33a.out _ _ _ rfl rfl HA33.out (by (try simp only [List.length_append, List.length_singleton]); omega) HB33a.out.size ?_; intro v34 w34 hO hg; have HO34 := Lib.hid hO; have HB34 := Lib.hid (below_own HB33a.out HO33a.out hg (Nat.le_refl _)); have HT34 : Hid (w34.heap[w22.heap.size + 1]? = some (.cells (quadC x).toArray 72 (0, 0))) := Lib.hid (keep_block HO33a.out ((heap_alloc_old _ _ (Array.getElem?_eq_some_iff.1 HT33.out).1).trans HT33.out) (by decide) hg); clear hO hg))
                       go_roundw
                       case rel => exact ⟨jj + 1, by go_num, by omega, Lib.hid (by rw [HP.out, <- List.append_assoc, <- List.append_assoc, <- List.append_assoc]; exact HO34.out), HB34, HT34⟩
                       case measure => simp [intOf]; omega
                     · have TX2 := Lib.hid (HJ.out.tx (slotT x jj) (slot_in HX.out.1 jj) htn)
                       have htl := (text_len htn).1
                       have e1 : ((slotT x jj).kind != 1) = true := bne_iff_ne.2 hk1
                       have HP : Hid (partL bl x (jj + 1) = (partL bl x jj ++ bl) ++ textF (slotT x jj)) := Lib.hid (by rw [partL, pieceL, if_neg hk0, putT, sepF, if_neg (fun h => hbl h.2)]; simp)
                       have e0 : ((slotT x jj).kind == 0) = false := beq_eq_false_iff_ne.2 hk0
                       have e2l : bl.isEmpty = false := by cases bl with
                         | nil => exact absurd rfl hbl
                         | cons y r => rfl
                       clear hbl
                       clear hk0 htn hk1
                       obtain ⟨t, ht⟩ : ∃ t, slotT x jj = t := ⟨_, rfl⟩
                       rw [ht] at TX2 htl HP e0 e1 s0 s1 s2 s3
                       obtain ⟨p, hp⟩ : ∃ p, partL bl x jj = p := ⟨_, rfl⟩
                       rw [hp] at HO30 HP hpl
                       clear hp
                       go_wp2_with (first
                         | (go_at_call 32; (with_reducible refine (TX2.out _ HB30.out).mono ?_); rintro e w31 ⟨rfl, hb31⟩; have HO31 := Lib.hid (HO30.out.below hb31); have HB31 := Lib.hid (HB30.out.trans (hb31.mono HB30.out.size)); have HT31 : Hid (w31.heap[w22.heap.size + 1]? = some (.cells (quadC x).toArray 72 (0, 0))) := Lib.hid ((hb31.block _ (Array.getElem?_eq_some_iff.1 HT30.out).1).trans HT30.out); obtain ⟨x310, x311, x312, x313⟩ := HJ.out.bx _ HB31.out; clear hb31)
                         | (at_builtin; refine wpList_app_str rfl (.tmp 167) (.tmp 169) rfl (w.alloc (.cells #[.slice (some ⟨b, o, none⟩) l.length c, .string (B gap), .string (B bl), .slice oa ord.length oc] 70)).heap.size _ (acc ++ p) bl rfl HO31.out rfl (by (try simp only [List.length_append]); omega) HB31.out.size ?_; intro v32 w32 hO hg; have HO32 := Lib.hid hO; have HB32 := Lib.hid (below_own HB31.out HO31.out hg (Nat.le_refl _)); have HT32 : Hid (w32.heap[w22.heap.size + 1]? = some (.cells (quadC x).toArray 72 (0, 0))) := Lib.hid (keep_block HO31.out HT31.out (by decide) hg); obtain ⟨x320, x321, x322, x323⟩ := HJ.out.bx _ HB32.out; clear hO hg)
                         | (at_builtin; refine wpList_app_str rfl (.tmp 171) (.tmp 172) rfl (w.alloc (.cells #[.slice (some ⟨b, o, none⟩) l.length c, .string (B gap), .string (B bl), .slice oa ord.length oc] 70)).heap.size _ ((acc ++ p) ++ bl) (textF t) rfl HO32.out rfl (by (try simp only [List.length_append]); omega) HB32.out.size ?_; intro v33 w33 hO hg; have HO33 := Lib.hid hO; have HB33 := Lib.hid (below_own HB32.out HO32.out hg (Nat.le_refl _)); have HT33 : Hid (w33.heap[w22.heap.size + 1]? = some (.cells (quadC x).toArray 72 (0, 0))) := Lib.hid (keep_block HO32.out HT32.out (by decide) hg); obtain ⟨x330, x331, x332, x333⟩ := HJ.out.bx _ HB33.out; obtain ⟨y330, _, _, _⟩ := slot_cells HT33.out HJ4.out; rw [ht] at y330; simp only [Nat.mul_comm] at y330; clear hO hg))
                       go_roundw
                       case rel => exact ⟨jj + 1, by go_num, by omega, Lib.hid (by rw [HP.out, <- List.append_assoc, <- List.append_assoc]; exact HO33.out), HB33, HT33⟩
                       case measure => simp [intOf]; omega
                   · have j1 : decide ((jj : Int) < 4) = false := decide_eq_false (by omega)
                     have j1n : decide (jj < 4) = false := decide_eq_false hj4
                     have hpl := part_len (bl := bl) HQ0.out 4
                     have HO40 := HO30
                     rw [show jj = 4 by omega] at HO40
                     have HB40 := HB30
                     have HTG : Hid (((acc ++ partL bl x 4) ++ bl) ++ [46] = bodyL gap bl (picks l ord (k + 1))) := Lib.hid (by
                       rw [picks, bodyL_snoc, HPX.out, HAC.out, loose_part HQ0.out, <- HACC.out]
                       simp [List.append_assoc])
                     obtain ⟨p, hp⟩ : ∃ p, partL bl x 4 = p := ⟨_, rfl⟩
                     rw [hp] at HO40 hpl HTG
                     clear hp
                     go_wp2_with (first
                       | (at_builtin; refine wpList_app_str rfl (.tmp 187) (.tmp 189) rfl (w.alloc (.cells #[.slice (some ⟨b, o, none⟩) l.length c, .string (B gap), .string (B bl), .slice oa ord.length oc] 70)).heap.size _ (acc ++ p) bl rfl HO40.out rfl (by (try simp only [List.length_append]); omega) HB40.out.size ?_; intro v41 w41 hO hg; have HO41 := Lib.hid hO; have HB41 := Lib.hid (below_own HB40.out HO40.out hg (Nat.le_refl _)); have HO41a := Lib.hid (HO41.out.below ((Below.refl _ _).alloc (Nat.le_refl _) (.cells #[.int .u8 46] 5))); have HB41a := Lib.hid (HB41.out.alloc HB41.out.size (.cells #[.int .u8 46] 5)); have HA41 := Lib.hid (At_byte w41 46 5); obtain ⟨x410, x411, x412, x413⟩ := HJ.out.bx _ HB41.out; clear hO hg)
                       | (at_builtin; refine wpList_app_bytes rfl (.tmp 191) (.tmp 192) rfl (w.alloc (.cells #[.slice (some ⟨b, o, none⟩) l.length c, .string (B gap), .string (B bl), .slice oa ord.length oc] 70)).heap.size _ ((acc ++ p) ++ bl) [46] rfl HO41a.out _ _ _ rfl rfl HA41.out (by (try simp only [List.length_append, List.length_singleton]); omega) HB41a.out.size ?_; intro v42 w42 hO hg; have HO42 := Lib.hid hO; have HB42 := Lib.hid (below_own HB41a.out HO41a.out hg (Nat.le_refl _)); clear hO hg))
                     go_roundw
                     case rel => exact ⟨k + 1, by go_num, by omega, Lib.hid (fun h => absurd h HNE.out), Lib.hid (by rw [<- HTG.out]; exact HO42.out), HB42⟩
                     case measure => simp [intOf]; omega
         · as_aux_lemma =>
           have c1 : decide ((k : Int) < (l.length : Int) + (ord.length : Int)) = false := decide_eq_false (by omega)
           have HM : Hid (∀ x, x ∈ picks l ord k ↔ x ∈ l) := Lib.hid (picks_fin HK0.out (by omega))
           obtain ⟨acc, hacc⟩ : ∃ acc, bodyL gap bl (picks l ord k) = acc := ⟨_, rfl⟩
           have HAL := body_len (gap := gap) (bl := bl) hn (picks l ord k) (fun q hq => HF.out.2.1 q ((HM.out q).1 hq))
           rw [picks_len, hacc] at HAL
           have hal : acc.length <= 6304400000 := by omega
           clear HAL
           rw [hacc] at HO
           have HO50 := HO
           have HB50 := HB
           obtain ⟨L, hL⟩ : ∃ L, acc ++ 10 :: gap = L := ⟨_, rfl⟩
           have HLL : Hid ((acc ++ [10]) ++ gap = L) := Lib.hid (by rw [<- hL]; simp)
           have HPS : Hid (∀ va vc u, Below (w.alloc (.cells #[.slice a l.length c, .string (B gap), .string (B bl), .slice oa ord.length oc] 70)).heap.size (w.alloc (.cells #[.slice a l.length c, .string (B gap), .string (B bl), .slice oa ord.length oc] 70)) u -> BOwn (w.alloc (.cells #[.slice a l.length c, .string (B gap), .string (B bl), .slice oa ord.length oc] 70)).heap.size (.slice va L.length vc) L u -> L.length <= 67108864 -> Calls Tryz.prog 25 #[.slice va L.length vc] u fun e w' => (∃ pa ca, e = .returned (.tuple #[.slice pa l.length ca, .nilIface]) /\ QView w' (.slice pa l.length ca) l) /\ Below u.heap.size u w') := Lib.hid (fun va vc u h1 h2 h3 => by
             subst hL
             subst hacc
             exact HJ.out.ps _ _ va vc u h1 h2 HG.out HBL.out (by omega) HF.out (by omega) HM.out h3)
           clear hL hacc
           have HO50a := Lib.hid (HO50.out.below ((Below.refl _ _).alloc (Nat.le_refl _) (.cells #[.int .u8 10] 5)))
           have HB50a := Lib.hid (HB50.out.alloc HB50.out.size (.cells #[.int .u8 10] 5))
           have HA50 := Lib.hid (At_byte wo 10 5)
           obtain ⟨x500, x501, x502, x503⟩ := HJ.out.bx _ HB50a.out
           by_cases hLs : L.length <= 67108864
           · have z1 : decide ((67108864 : Int) < (L.length : Int)) = false := decide_eq_false (by omega)
             have z1n : decide (67108864 < L.length) = false := decide_eq_false (by omega)
             have HLS := Lib.hid hLs
             clear hLs
             go_wp2_with (first
               | (at_builtin; refine wpList_app_bytes rfl (.tmp 194) (.tmp 195) rfl (w.alloc (.cells #[.slice a l.length c, .string (B gap), .string (B bl), .slice oa ord.length oc] 70)).heap.size _ acc [10] rfl HO50a.out _ _ _ rfl rfl HA50.out (by (try simp only [List.length_singleton]); omega) HB50a.out.size ?_; intro v51 w51 hO hg; have HO51 := Lib.hid hO; have HB51 := Lib.hid (below_own HB50a.out HO50a.out hg (Nat.le_refl _)); obtain ⟨x510, x511, x512, x513⟩ := HJ.out.bx _ HB51.out; clear hO hg)
               | (at_builtin; refine wpList_app_str rfl (.tmp 197) (.tmp 199) rfl (w.alloc (.cells #[.slice a l.length c, .string (B gap), .string (B bl), .slice oa ord.length oc] 70)).heap.size _ (acc ++ [10]) gap rfl HO51.out rfl (by (try simp only [List.length_append, List.length_singleton]); omega) HB51.out.size ?_; intro v52 w52 hO hg; have HO52 := Lib.hid hO; have HB52 := Lib.hid (below_own HB51.out HO51.out hg (Nat.le_refl _)); have hO6 : BOwn (w.alloc (.cells #[.slice a l.length c, .string (B gap), .string (B bl), .slice oa ord.length oc] 70)).heap.size v52 L w52 := HLL.out ▸ hO; obtain ⟨a52, c52, rfl⟩ := hO6.slice; have HOL := Lib.hid hO6; clear hO6; obtain ⟨x520, x521, x522, x523⟩ := HJ.out.bx _ HB52.out; clear hO hg)
               | (go_at_call 25; (with_reducible refine (HPS.out _ _ _ HB52.out HOL.out HLS.out).mono ?_); rintro e w53 ⟨⟨pa, ca, rfl, hq53⟩, hb53⟩; have HB53 := Lib.hid (HB52.out.trans (hb53.mono HB52.out.size)); have HQ53 := Lib.hid hq53; obtain ⟨x530, x531, x532, x533⟩ := HJ.out.bx _ HB53.out; clear hb53 hq53)
               | (go_at_call 27; (with_reducible refine (HJ.out.sq _ _ HB53.out HQ53.out).mono ?_); rintro e w54 ⟨rfl, hb54⟩; have HB54 := Lib.hid (HB53.out.trans (hb54.mono HB53.out.size)); clear hb54))
             go_ret
             exact ⟨rfl, HA.out _ HB54.out⟩
           · have z1 : decide ((67108864 : Int) < (L.length : Int)) = true := decide_eq_true (by omega)
             have z1n : decide (67108864 < L.length) = true := decide_eq_true (by omega)
             have HLS : Hid (67108864 < L.length) := Lib.hid (by omega)
             clear hLs
             go_wp2_with (first
               | (at_builtin; refine wpList_app_bytes rfl (.tmp 194) (.tmp 195) rfl (w.alloc (.cells #[.slice a l.length c, .string (B gap), .string (B bl), .slice oa ord.length oc] 70)).heap.size _ acc [10] rfl HO50a.out _ _ _ rfl rfl HA50.out (by (try simp only [List.length_singleton]); omega) HB50a.out.size ?_; intro v51 w51 hO hg; have HO51 := Lib.hid hO; have HB51 := Lib.hid (below_own HB50a.out HO50a.out hg (Nat.le_refl _)); obtain ⟨x510, x511, x512, x513⟩ := HJ.out.bx _ HB51.out; clear hO hg)
               | (at_builtin; refine wpList_app_str rfl (.tmp 197) (.tmp 199) rfl (w.alloc (.cells #[.slice a l.length c, .string (B gap), .string (B bl), .slice oa ord.length oc] 70)).heap.size _ (acc ++ [10]) gap rfl HO51.out rfl (by (try simp only [List.length_append, List.length_singleton]); omega) HB51.out.size ?_; intro v52 w52 hO hg; have HO52 := Lib.hid hO; have HB52 := Lib.hid (below_own HB51.out HO51.out hg (Nat.le_refl _)); have hO6 : BOwn (w.alloc (.cells #[.slice a l.length c, .string (B gap), .string (B bl), .slice oa ord.length oc] 70)).heap.size v52 L w52 := HLL.out ▸ hO; obtain ⟨a52, c52, rfl⟩ := hO6.slice; have HOL := Lib.hid hO6; clear hO6; obtain ⟨x520, x521, x522, x523⟩ := HJ.out.bx _ HB52.out; clear hO hg)
               | (go_at_call 25; (with_reducible refine (nqParse_long _ _ _ _ HLS.out).mono ?_); rintro e w53 ⟨⟨vm, evm, rfl⟩, hb53⟩; have HB53 := Lib.hid (HB52.out.trans (hb53.mono HB52.out.size)); clear hb53))
             go_ret
             exact ⟨rfl, HA.out _ HB53.out⟩
end Go.Proofs.YtdegonmkikfghaaGreatDoor
namespace Go.Proofs.YtdegonmkikfghaaGreatDoor
open Go.RowKit
set_option maxRecDepth 1000000
theorem loose_walk (l : List QuadL) (gap bl : List UInt8) (ord : List Int) (v : Value) (oa : Option Addr) (oc : Nat) (w : World) (hV : QView w v l) (hN : Neat l) (hO : At w oa (ord.map (Value.int .i64))) (hs : gap.length + bl.length <= 1048576) (hT : TabAt w) (hM : MaxAt w) (hU : UtAt w) (hE : ErrType w) :
   Calls Tryz.prog 8 #[.agg #[v, .string (B gap), .string (B bl), .slice oa ord.length oc]] w fun e w' => e = .returned (.bool true) /\ Below w.heap.size w w' := by
 obtain ⟨a, c, rfl, _, _⟩ := id hV
 have J := lin_l l gap bl ord a c oa oc w hV hN hO (by omega) hT hM hU hE
 by_cases hv : (validF l).2 = 0
 · have hf := (validF_ok l).1 hv
   by_cases hg : looseB gap false = true
   · by_cases hl : l.length <= 1000
     · by_cases ho : ord.length <= 1000
       · by_cases hn : gap.length + bl.length <= 1000
         · by_cases hb : ∀ x ∈ bl, blankC x = true
           · exact loose_in l gap bl ord a c oa oc w J hf hg hl ho hn hb
           · exact loose_blank l gap bl ord a c oa oc w J hf hg hl ho hn hb
         · exact loose_big3 l gap bl ord a c oa oc w J hf hg hl ho (by omega) (by omega)
       · exact loose_big2 l gap bl ord a c oa oc w J hf hg hl (by omega)
     · exact loose_big1 l gap bl ord a c oa oc w J hf hg (by omega)
   · exact loose_tight l gap bl ord a c oa oc w J hf (by simpa using hg)
 · exact loose_bad l gap bl ord a c oa oc w J _ rfl hv
end Go.Proofs.YtdegonmkikfghaaGreatDoor
