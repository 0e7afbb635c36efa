/-
  The reference's reader: extension: contract. By an AI agent.
-/
import Derived.Test.YtfocpjcbfbbpgaaGreatDoorZGRef2
import Derived.Test.YtfocpjcbfbbpgaaGreatDoorZLower
import Derived.Deep.RegionLaw
import Derived.Deep.RegionHeld3
import Derived.Test.YtfocpjcbfbbpgaaGreatDoorZTagCells
namespace Go.Proofs.YtfocpjcbfbbpgaaGreatDoor
open Go.RowKit
set_option maxRecDepth 100000
def dupX (exts : List (List UInt8)) (p : List UInt8) : Bool := exts.any fun x => lowL (x.take 1) == lowL p
def RExtPost (w w' : World) (e : Ending) (b tb k base : Nat) (l0 l1 l2 l3 l4 l6 ev : Value) (exts : List (List UInt8)) (p : List UInt8) (ps : List (List UInt8)) : Prop :=
 (dupX exts p = true /\ e = .returned (.bool false) /\ FrameX w w' [b, tb]) \/
 (dupX exts p = false /\ e = .returned (.bool (!((tagTail 2 ps).1 == []))) /\ ∃ lv' ev', ViewAt w' k lv' (tagTail 2 ps).2 /\ RowAt w' b [lv'] /\ RowAt w' tb [l0, l1, l2, l3, l4, ev', l6] /\
   w'.ownsRow base 9 1 ev' (exts ++ [joinD (p :: (tagTail 2 ps).1)]).length ((exts ++ [joinD (p :: (tagTail 2 ps).1)]).map strV) /\ (ev'.ownBlock = ev.ownBlock \/ ∃ g, w.heap.size <= g /\ ev'.ownBlock = some g) /\ FrameX w w' (b :: tb :: ev.ownBlock.toList))
theorem ownsRow_one (w : World) (base : Nat) (u : Value) (hb : base <= w.heap.size) : (w.alloc (.cells #[u] 9)).ownsRow base 9 1 (.slice (some ⟨w.heap.size, 0, none⟩) 1 1) 1 [u] :=
 ⟨rfl, .inr ⟨w.heap.size, 1, #[u], rfl, hb, heap_alloc_last _ _, Nat.le_refl _, by decide, rfl, rfl⟩⟩
theorem both28 (p : List UInt8) (w : World) (hp : p.length <= 140737488351232) :
   Calls Tryz.prog 164 #[.string (B p), .int .i64 2, .int .i64 8] w fun e w' => e = .returned (.bool (madeB p 2 8 false)) /\ w' = w := both_l p 2 8 w hp (by omega) (by omega)
set_option maxHeartbeats 3200000 in
theorem rext_l (b tb k base : Nat) (l0 l1 l2 l3 l4 l6 ev : Value) (exts : List (List UInt8)) (p : List UInt8) (ps : List (List UInt8)) (lv : Value) (w : World) (hv : ViewAt w k lv (p :: ps)) (hR : RowAt w b [lv]) (hT : RowAt w tb [l0, l1, l2, l3, l4, ev, l6]) (hE : w.ownsRow base 9 1 ev exts.length (exts.map strV))
   (hk : k ≠ b) (hkt : k ≠ tb) (hbt : b ≠ tb) (hkw : k < w.heap.size) (hev : ∀ g, ev.ownBlock = some g -> g ≠ k /\ g ≠ b /\ g ≠ tb) (hbase : base <= w.heap.size) (hp1 : p.length = 1) (hp : ∀ p ∈ ps, p.length <= 4194304) (hn : ps.length <= 1500000) (hel : exts.length <= 4194305) (hx : ∀ x ∈ exts, 1 <= x.length /\ x.length <= 140737488351232) :
   Calls Tryz.prog 165 #[.pointer (some ⟨b, 0, none⟩), .pointer (some ⟨tb, 0, none⟩)] w fun e w' => RExtPost w w' e b tb k base l0 l1 l2 l3 l4 l6 ev exts p ps := by
 have hbw : b < w.heap.size := World.block_lt_of_cell? _ _ (row_of hR 0 _ rfl).1
 have htw : tb < w.heap.size := World.block_lt_of_cell? _ _ (row_of hT 0 _ rfl).1
 have N1 := Lib.hid (rnext_l b k p ps lv w hv hR hk)
 have NEXT := Lib.hid (fun p ps lv w => rnext_l b k p ps lv w)
 have HT := Lib.hid hT
 have HE := Lib.hid hE
 have HP := Lib.hid hp
 have HX := Lib.hid hx
 have HEV := Lib.hid hev
 obtain ⟨i0, hi, hz0, hz1, hz2⟩ := info_parts infoStr
 clear hv hR hT hE hp hx hev
 go_enter Tryz.func165, Tryz.ntmps165
 go_wp2_with (go_at_call 162; (with_reducible refine N1.out.mono ?_); rintro e w1 ⟨rfl, lv1, hv1, hR1, hg1⟩; have HX1 := Lib.hid (And.intro hv1 (And.intro hR1 hg1)); clear hv1 hR1 hg1)
 go_loopw [5] (fun sv wr => ∃ (taken left : List (List UInt8)) (lv : Value), wr.ownsRow w.heap.size 9 1 sv (p :: taken).length ((p :: taken).map strV) /\ taken.length + left.length = ps.length /\ (flatH taken).length <= 9 * taken.length /\ (∀ q ∈ left, q.length <= 4194304) /\ Hid (tagTail 2 ps = (taken ++ (tagTail 2 left).1, (tagTail 2 left).2)) /\ ViewAt wr k lv left /\ RowAt wr b [lv] /\ FrameX w wr [b]) (fun _ wr => cellLen wr b)
 case atStart =>
   obtain ⟨hv1, hR1, hg1⟩ := HX1.out
   have hb1 : Below w1.heap.size w1 (w1.alloc (.cells #[.string (B p)] 9)) := (Below.refl _ _).alloc (Nat.le_refl _) _
   exact ⟨[], ps, lv1, ownsRow_one w1 w.heap.size (.string (B p)) hg1.size, by simp, by simp [flatH], HP.out, Lib.hid (by simp), hv1.below hb1, hR1.below hb1 (World.block_lt_of_cell? _ _ (row_of hR1 0 _ rfl).1), ((FrameX.refl w [b]).step hg1 (fun j hj => by cases hj; simp)).trans (FrameX.of_below hb1 _)⟩
 case round =>
   clear HX1 N1
   obtain ⟨taken, left, lv, hown, hlen, hfl, hpp, HM, hv, hR, hg⟩ := hrel
   have hbr : b < wr.heap.size := World.block_lt_of_cell? _ _ (row_of hR 0 _ rfl).1
   have y0 := (row_of hR 0 _ rfl).1
   obtain ⟨a, cap, rfl, hcap, _, hA⟩ := ownsRow_at hown
   have HCM : Hid (cellLen wr b = left.length) := Lib.hid (by rw [cellLen_of (row_of hR 0 _ rfl).1, hv.len])
   cases hq : seesF (fun p => madeB p 2 8 false) left with
   | true =>
     rcases left with _ | ⟨q, left⟩
     · cases hq
     have hmd : madeB q 2 8 false = true := hq
     have hql := (made_len hmd).2
     have BO := Lib.hid (both28 q wr (Nat.le_trans (hpp q (by simp)) (by omega)))
     rw [hmd] at BO
     have HE2 : Hid (tagTail 2 ps = ((taken ++ [q]) ++ (tagTail 2 left).1, (tagTail 2 left).2)) := Lib.hid (by rw [HM.out, tagTail_yes hmd]; simp)
     have hfl2 : (flatH (taken ++ [q])).length <= 9 * (taken ++ [q]).length := by rw [flatH_snoc]; simp; omega
     have HPP := Lib.hid (fun z (hz : z ∈ left) => hpp z (by simp [hz]))
     have N := Lib.hid (NEXT.out q left lv wr hv hR hk)
     obtain ⟨o, cp, rfl, hcc, hd, _⟩ := hv.cons
     have HG := Lib.hid hg
     have HFL := Lib.hid hfl2
     have HOW := Lib.hid hown
     have hsw : w.heap.size <= wr.heap.size := hg.size
     have hzz : decide (0 < (left.length : Int) + 1) = true := decide_eq_true (by omega)
     clear hv hR hg HM hq hmd hpp hown hA hfl2 hfl
     go_wp2_with (first
       | (go_at_call 164; (with_reducible refine BO.out.mono ?_); rintro e w6 ⟨rfl, hw6⟩; obtain rfl := hw6.symm)
       | (go_at_call 162; (with_reducible refine N.out.mono ?_); rintro e w7 ⟨rfl, lv7, hv7, hR7, hg7⟩; have hown7 := own_kept HOW.out hg7 hbw; have HX7 := Lib.hid (And.intro hv7 (And.intro hR7 hg7)); have hs7 : w.heap.size <= w7.heap.size := Nat.le_trans hsw hg7.size; clear hv7 hR7 hg7)
       | (at_builtin; refine wpList_append_texts rfl (.tmp 28) (.tmp 30) 141 rfl w.heap.size 9 i0 (.string ⟨#[]⟩) 16 Tryz.underlying141 hi hz0 hz1 hz2 rfl _ _ _ rfl (hown7.alloc _) (some ⟨w7.heap.size, 0, none⟩) 1 1 [.string (B q)] rfl rfl (at_one _ _ _) (fun h => nomatch h) (fun u hu => by rw [List.mem_singleton.1 hu]; rfl) ?c4 ?c5 ?c6 ?_)
       | fail)
     case c4 => simp; unfold maxLen; simp at hlen; omega
     case c5 => simp; simp at hlen; omega
     case c6 => rw [World.size_alloc]; omega
     intro v8 w8 hown8 hg8 ho8
     obtain ⟨hv7, hR7, hg7⟩ := HX7.out
     have lt7 : ∀ g, (Value.slice a (p :: taken).length cap).ownBlock = some g -> w.heap.size <= g /\ g < w7.heap.size := fun g h => hown7.lt g h
     have hx8 : w7.grownBy w8 (Value.slice a (p :: taken).length cap).ownBlock := grown_trans (World.grownBy_alloc w7 _ _) hg8
     have hF8 : FrameX w w8 [b] := (HG.out.step hg7 (fun j hj => by cases hj; simp)).step hx8 (fun g h => .inl (lt7 g h).1)
     have nb : some b ≠ (Value.slice a (p :: taken).length cap).ownBlock := fun e => by have := (lt7 b e.symm).1; omega
     have nk : some k ≠ (Value.slice a (p :: taken).length cap).ownBlock := fun e => by have := (lt7 k e.symm).1; omega
     have hown9 : w8.ownsRow w.heap.size 9 1 v8 (p :: (taken ++ [q])).length ((p :: (taken ++ [q])).map strV) := by
       have e : (p :: (taken ++ [q])) = (p :: taken) ++ [q] := rfl
       rw [e, List.length_append, List.map_append]; exact hown8
     have HQ := Lib.hid (And.intro hown9 (And.intro (hv7.grown hx8 nk) (And.intro (hR7.grown hx8 nb (by omega)) hF8)))
     clear hv7 hR7 hg7 lt7 hx8 hF8 nb nk hown8 hown9 hg8 ho8 hown7 HX7
     go_wp2_with fail
     go_roundw
     case rel =>
       obtain ⟨h1, h2, h3', h5⟩ := HQ.out
       exact ⟨taken ++ [q], left, lv7, h1, by simp at hlen ⊢; omega, HFL.out, HPP.out, HE2, h2, h3', h5⟩
     case measure =>
       obtain ⟨h1, h2, h3', h5⟩ := HQ.out
       rw [HCM.out, cellLen_of (row_of h3' 0 _ rfl).1, h2.len]
       simp
   | false =>
     have HE2 : Hid (tagTail 2 ps = (taken, left)) := Lib.hid (by
       rw [HM.out]
       rcases left with _ | ⟨q, left⟩
       · simp [tagTail]
       · have hmd : madeB q 2 8 false = false := hq
         rw [tagTail_no hmd]; simp)
     have BO : Hid (∀ q r, left = q :: r -> Calls Tryz.prog 164 #[.string (B q), .int .i64 2, .int .i64 8] wr fun e w' => e = .returned (.bool false) /\ w' = wr) := Lib.hid (fun q r h => by
       subst h
       have hmd : madeB q 2 8 false = false := hq
       exact hmd ▸ both28 q wr (Nat.le_trans (hpp q (by simp)) (by omega)))
     have HQ := Lib.hid (And.intro hown (And.intro hv (And.intro hR hg)))
     have hT := hg.row HT.out htw (by simpa using fun h => hbt h.symm)
     have hE := hg.own HE.out (fun g hgx => by simpa using (HEV.out g hgx).2.1)
     obtain ⟨ea, ecap, rfl, hecap, _, hEA⟩ := ownsRow_at hE
     have y5 := (row_of hT 5 _ rfl).1
     have hTT := Lib.hid (And.intro hT hE)
     have hEAA := Lib.hid hEA
     have hsw : w.heap.size <= wr.heap.size := hg.size
     obtain ⟨nn, hnn⟩ : ∃ nn, (p :: taken).length = nn := ⟨_, rfl⟩
     have HNN := Lib.hid hnn
     have hnn1 : nn <= 1500001 := by rw [<- hnn]; simp; omega
     have hnn0 : 0 < nn := by rw [<- hnn]; simp
     have hnn2 : (0 : Int) < (nn : Int) := by omega
     have HFL := Lib.hid hfl
     have hka : ∃ g, a = some ⟨g, 0, none⟩ := by
       obtain ⟨g, o, rfl⟩ := hA.place (by simp)
       have h := hown.2
       rcases h with ⟨h, _⟩ | ⟨g', _, _, h, _⟩
       · cases h
       · cases h
         exact ⟨_, rfl⟩
     obtain ⟨ga, rfl⟩ := hka
     have a0 : wr.cell? ⟨ga, 0, none⟩ = some (.string (B p)) := by
       have h := hA.get (j := 0) (by simp)
       simpa [strV] using h
     obtain ⟨wo, rfl⟩ : ∃ wo : World, wo = wr := ⟨_, rfl⟩
     have hga : ga < wo.heap.size := World.block_lt_of_cell? _ _ a0
     have hto : tb < wo.heap.size := World.block_lt_of_cell? _ _ y5
     have LB := Lib.hid (fun u => refLower_l p u (by unfold maxLen; omega))
     rw [hnn] at hown HQ hcap ⊢
     have HHA := Lib.hid hA
     clear hown hT hE hEA hg hA HM hpp hfl hnn
     have hleft : (left = []) \/ ∃ q r, left = q :: r := by rcases left with _ | ⟨q, r⟩ <;> simp
     rcases hleft with h | ⟨q, r, h⟩
     · subst h
       obtain ⟨o, cp, rfl⟩ := hv.empty
       clear hv hR hq
       go_wp2_with fail
       go_loopw [7] (fun i wr => ∃ j : Nat, i = .int .i64 j /\ j <= exts.length /\ Hid (dupX exts p = dupX (exts.drop j) p) /\ Below wo.heap.size wo wr) (fun i _ => exts.length - (intOf i).toNat)
       case atStart => exact ⟨0, rfl, Nat.zero_le _, Lib.hid (by simp), Below.refl _ _⟩
       case round =>
         obtain ⟨j, rfl, hj, HD, hb⟩ := hrel
         have z5 : wr.cell? ⟨tb, 5, none⟩ = some (.slice ea exts.length ecap) := (hb.cell (p := ⟨tb, 5, none⟩) hto).trans y5
         have z0 : wr.cell? ⟨ga, 0, none⟩ = some (.string (B p)) := (hb.cell (p := ⟨ga, 0, none⟩) hga).trans a0
         by_cases hlt : j < exts.length
         · obtain ⟨eb, eo, rfl⟩ := hEAA.out.place (by simp; omega)
           have hxc := strAt hEAA.out hlt
           have hxl := HX.out exts[j] (List.getElem_mem ..)
           obtain ⟨x, hx⟩ : ∃ x, exts[j] = x := ⟨_, rfl⟩
           rw [hx] at hxc hxl
           have hst : dupX (exts.drop j) p = (lowL (x.take 1) == lowL p || dupX (exts.drop (j + 1)) p) := by
             unfold dupX
             rw [List.drop_eq_getElem_cons hlt, hx, List.any_cons]
           have hxo : eb < wo.heap.size := World.block_lt_of_cell? _ _ hxc
           have zx : wr.cell? ⟨eb, eo + j, none⟩ = some (.string (B x)) := (hb.cell (p := ⟨eb, eo + j, none⟩) hxo).trans hxc
           have LA := Lib.hid (fun u => refLower_l (x.take 1) u (by simp; unfold maxLen; omega))
           have hx1 : (1 : Int) <= (x.length : Int) := by have := hxl.1; omega
           have hx2 := hxl.2
           have SB : Hid (∀ u, Below wo.heap.size wo u -> u.cell? ⟨tb, 5, none⟩ = some (.slice (some ⟨eb, eo, none⟩) exts.length ecap) /\ u.cell? ⟨eb, eo + j, none⟩ = some (.string (B x)) /\ u.cell? ⟨ga, 0, none⟩ = some (.string (B p))) :=
             Lib.hid (fun u h => ⟨(h.cell (p := ⟨tb, 5, none⟩) hto).trans y5, (h.cell (p := ⟨eb, eo + j, none⟩) hxo).trans hxc, (h.cell (p := ⟨ga, 0, none⟩) hga).trans a0⟩)
           have HB := Lib.hid hb
           have HST := Lib.hid hst
           have HXX := Lib.hid hx
           clear hst hx hxl hb hxc
           go_upto_region 8 with fail
           go_cut [54] (fun s wx => s = .bool (lowL (x.take 1) == lowL p) /\ Below wo.heap.size wo wx)
           case first =>
             go_region_held3 (fun w' => w'.cell? ⟨tb, 5, none⟩ = some (.slice (some ⟨eb, eo, none⟩) exts.length ecap) /\ w'.cell? ⟨eb, eo + j, none⟩ = some (.string (B x)) /\ w'.cell? ⟨ga, 0, none⟩ = some (.string (B p))) (first | exact ⟨z5, zx, z0⟩ | exact SB.out _ HB8.out | exact SB.out _ HB7.out)
               (first
                 | (go_at_call 159; (with_reducible refine (LA.out _).mono ?_); rintro e w7 ⟨rfl, hb7⟩; have HB7 : Hid (Below wo.heap.size wo w7) := Lib.hid (HB.out.drew.trans (hb7.mono HB.out.drew.size)); clear hb7)
                 | (go_at_call 159; (with_reducible refine (LB.out _).mono ?_); rintro e w8 ⟨rfl, hb8⟩; have HB8 : Hid (Below wo.heap.size wo w8) := Lib.hid (HB7.out.trans (hb8.mono HB7.out.size)); clear hb8))
             go_wp2_with fail
             go_meet
             case rel => exact ⟨rfl, HB8.out⟩
           case rest =>
             obtain ⟨rfl, hb9⟩ := hcut
             have HB9 := Lib.hid hb9
             clear hb9 z0 zx z5 SB LA
             cases hq2 : (lowL (x.take 1) == lowL p) with
             | true =>
               have HDD : Hid (dupX exts p = true) := Lib.hid (by rw [HD.out, HST.out, hq2]; rfl)
               clear hq2 HD
               go_wp2_with fail
               go_ret
               obtain ⟨hown, hv, hR, hg⟩ := HQ.out
               exact .inl ⟨HDD.out, rfl, (hg.trans (FrameX.of_below HB9.out _)).mono (fun c hc _ => by simp at hc; simp [hc])⟩
             | false =>
               have HD2 : Hid (dupX exts p = dupX (exts.drop (j + 1)) p) := Lib.hid (by rw [HD.out, HST.out, hq2]; rfl)
               clear hq2 HD
               go_wp2_with fail
               go_roundw
               case rel => exact ⟨j + 1, by go_num, hlt, HD2, HB9.out⟩
               case measure => simp [intOf]; omega
         · obtain rfl : j = exts.length := by omega
           have HDD : Hid (dupX exts p = false) := Lib.hid (by rw [HD.out, List.drop_length]; rfl)
           clear HD hj hlt
           go_wp2_with fail
           have JD : Hid (∀ u, Below wo.heap.size wo u -> Calls Tryz.prog 214 #[.slice (some ⟨ga, 0, none⟩) nn cap] u fun e w' => e = .returned (.string (B (joinD (p :: taken)))) /\ Below u.heap.size u w') := Lib.hid (fun u h => by
             have hc := refJoined_l (p :: taken) (some ⟨ga, 0, none⟩) cap u (by rw [HNN.out]; omega) (by rw [joinD_flat, List.length_append]; have := HFL.out; have := HNN.out; simp at this; omega) (HHA.out.below h)
             rw [HNN.out] at hc
             exact hc)
           have HBR := Lib.hid hb
           generalize hjj : joinD (p :: taken) = jj at JD
           have HJJ := Lib.hid hjj
           clear hjj hb
           have hsz : base <= wo.heap.size := Nat.le_trans hbase hsw
           go_region_law (first
             | (go_simp; go_at_call 214; (with_reducible refine (JD.out _ (by first | exact HBR.out | exact HBR.out.drew)).mono ?_); rintro e w10 ⟨rfl, hb10⟩; have HB10 : Hid (Below wo.heap.size wo w10) := Lib.hid (HBR.out.drew.trans (hb10.mono HBR.out.drew.size)); have hT10 := hTT.out.1.below HB10.out hto; have hE10 := (ownsRow_below hTT.out.2 HB10.out).alloc (.cells #[.string (B jj)] 9); have x5 := (row_of hT10 5 _ rfl).1; have n10 := World.new_ne w10 _ x5; have lt10 : tb < w10.heap.size := World.block_lt_of_cell? _ _ x5; have HT10 := Lib.hid hT10; have hs10 := HB10.out.size; clear hb10 hT10)
             | (refine step_append_texts rfl (.tmp 59) (.tmp 62) 141 rfl base 9 i0 (.string ⟨#[]⟩) 16 Tryz.underlying141 hi hz0 hz1 hz2 rfl (.slice ea exts.length ecap) exts.length (exts.map strV) (by simp [Act.eval]) (by exact hE10) (some ⟨w10.heap.size, 0, none⟩) 1 1 [.string (B jj)] (by simp [Act.eval]) (by simp) (by exact at_one _ _ _) (fun h => nomatch h) (fun u hu => by rw [List.mem_singleton.1 hu]; rfl) (by unfold maxLen; omega) (by omega) (by simp; omega) ?_
                intro v11 w11 hown11 hg11 ho11
                have hx11 : w10.grownBy w11 (Value.slice ea exts.length ecap).ownBlock := grown_trans (World.grownBy_alloc w10 _ _) hg11
                have nt : some tb ≠ (Value.slice ea exts.length ecap).ownBlock := fun e => (HEV.out tb e.symm).2.2 rfl
                have hT11 := HT10.out.grown hx11 nt (by omega)
                have x11 := (row_of hT11 5 _ rfl).1
                have f11 := (row_of hT11 5 _ rfl).2
                have hl11 : (exts ++ [jj]).length = exts.length + 1 := by simp
                have hown12 : w11.ownsRow base 9 1 v11 (exts ++ [jj]).length ((exts ++ [jj]).map strV) := by rw [hl11, List.map_append]; exact hown11
                have ho12 : v11.ownBlock = (Value.slice ea exts.length ecap).ownBlock \/ ∃ g, w.heap.size <= g /\ v11.ownBlock = some g := ho11.imp id (fun h => ⟨_, by simp; omega, h⟩)
                have HY := Lib.hid (And.intro hx11 (And.intro hT11 (And.intro hown12 ho12)))
                obtain ⟨g11, c11, rfl, _, _, _⟩ := ownsRow_at hown11
                clear hx11 nt hT11 hl11 hown12 ho12 hown11 hg11 ho11 hE10 x5))
           all_goals go_wp2_with fail
           all_goals
             go_ret
             obtain ⟨hown, hv, hR, hg⟩ := HQ.out
             obtain ⟨hx11, hT11, hown12, ho12⟩ := HY.out
             have hgs := grownBy_set w11 tb 5 (.slice g11 (exts.length + 1) c11)
             have nb : some b ≠ (Value.slice ea exts.length ecap).ownBlock := fun e => (HEV.out b e.symm).2.1 rfl
             have nk : some k ≠ (Value.slice ea exts.length ecap).ownBlock := fun e => (HEV.out k e.symm).1 rfl
             have hv12 := ((hv.below HB10.out).grown hx11 nk).grown hgs (by simpa using hkt)
             have hR12 := ((hR.below HB10.out hbr).grown hx11 nb (by have := HB10.out.size; omega)).grown hgs (by simpa using hbt) (by have := HB10.out.size; have := hx11.size; omega)
             have hF := ((((hg.mono (cs := b :: tb :: (Value.slice ea exts.length ecap).ownBlock.toList) (fun c hc _ => by simp at hc; simp [hc])).trans (FrameX.of_below HB10.out _)).step hx11 (fun g h => .inr (by rw [h]; simp))).step hgs (fun g h => .inr (by cases h; simp)))
             have hown13 := hown12.kept hgs (by
               rcases ho12 with h | ⟨g, hge, h⟩
               · rw [h]
                 cases hob : (Value.slice ea exts.length ecap).ownBlock with
                 | none => exact .inl rfl
                 | some g => exact .inr (fun e => (HEV.out g hob).2.2 (by cases e; rfl))
               · rw [h]
                 exact .inr (fun e => by cases e; omega))
             unfold RExtPost
             rw [HE2.out]
             refine .inr ⟨HDD.out, ?_, _, _, hv12, hR12, hT11.set (j := 5) (by simp) _, by rw [HJJ.out]; exact hown13, ho12, hF⟩
             have hnz := HNN.out
             simp at hnz
             cases taken with
             | nil => simp at hnz; subst hnz; rfl
             | cons y z =>
               have : decide (1 < (nn : Int)) = true := decide_eq_true (by simp at hnz; omega)
               exact ret_bool (by first | (rw [this]; rfl) | (simp; simp at hnz; omega))
     · subst h
       obtain ⟨o, cp, rfl, hcc, hd, _⟩ := hv.cons
       have hzz : decide (0 < (r.length : Int) + 1) = true := decide_eq_true (by omega)
       have B1 := Lib.hid (BO.out q r rfl)
       clear hv hR hq
       go_wp2_with (go_at_call 164; (with_reducible refine B1.out.mono ?_); rintro e w6 ⟨rfl, hw6⟩; obtain rfl := hw6.symm)
       go_loopw [7] (fun i wr => ∃ j : Nat, i = .int .i64 j /\ j <= exts.length /\ Hid (dupX exts p = dupX (exts.drop j) p) /\ Below wo.heap.size wo wr) (fun i _ => exts.length - (intOf i).toNat)
       case atStart => exact ⟨0, rfl, Nat.zero_le _, Lib.hid (by simp), Below.refl _ _⟩
       case round =>
         obtain ⟨j, rfl, hj, HD, hb⟩ := hrel
         have z5 : wr.cell? ⟨tb, 5, none⟩ = some (.slice ea exts.length ecap) := (hb.cell (p := ⟨tb, 5, none⟩) hto).trans y5
         have z0 : wr.cell? ⟨ga, 0, none⟩ = some (.string (B p)) := (hb.cell (p := ⟨ga, 0, none⟩) hga).trans a0
         by_cases hlt : j < exts.length
         · obtain ⟨eb, eo, rfl⟩ := hEAA.out.place (by simp; omega)
           have hxc := strAt hEAA.out hlt
           have hxl := HX.out exts[j] (List.getElem_mem ..)
           obtain ⟨x, hx⟩ : ∃ x, exts[j] = x := ⟨_, rfl⟩
           rw [hx] at hxc hxl
           have hst : dupX (exts.drop j) p = (lowL (x.take 1) == lowL p || dupX (exts.drop (j + 1)) p) := by
             unfold dupX
             rw [List.drop_eq_getElem_cons hlt, hx, List.any_cons]
           have hxo : eb < wo.heap.size := World.block_lt_of_cell? _ _ hxc
           have zx : wr.cell? ⟨eb, eo + j, none⟩ = some (.string (B x)) := (hb.cell (p := ⟨eb, eo + j, none⟩) hxo).trans hxc
           have LA := Lib.hid (fun u => refLower_l (x.take 1) u (by simp; unfold maxLen; omega))
           have hx1 : (1 : Int) <= (x.length : Int) := by have := hxl.1; omega
           have hx2 := hxl.2
           have SB : Hid (∀ u, Below wo.heap.size wo u -> u.cell? ⟨tb, 5, none⟩ = some (.slice (some ⟨eb, eo, none⟩) exts.length ecap) /\ u.cell? ⟨eb, eo + j, none⟩ = some (.string (B x)) /\ u.cell? ⟨ga, 0, none⟩ = some (.string (B p))) :=
             Lib.hid (fun u h => ⟨(h.cell (p := ⟨tb, 5, none⟩) hto).trans y5, (h.cell (p := ⟨eb, eo + j, none⟩) hxo).trans hxc, (h.cell (p := ⟨ga, 0, none⟩) hga).trans a0⟩)
           have HB := Lib.hid hb
           have HST := Lib.hid hst
           have HXX := Lib.hid hx
           clear hst hx hxl hb hxc
           go_upto_region 8 with fail
           go_cut [54] (fun s wx => s = .bool (lowL (x.take 1) == lowL p) /\ Below wo.heap.size wo wx)
           case first =>
             go_region_held3 (fun w' => w'.cell? ⟨tb, 5, none⟩ = some (.slice (some ⟨eb, eo, none⟩) exts.length ecap) /\ w'.cell? ⟨eb, eo + j, none⟩ = some (.string (B x)) /\ w'.cell? ⟨ga, 0, none⟩ = some (.string (B p))) (first | exact ⟨z5, zx, z0⟩ | exact SB.out _ HB8.out | exact SB.out _ HB7.out)
               (first
                 | (go_at_call 159; (with_reducible refine (LA.out _).mono ?_); rintro e w7 ⟨rfl, hb7⟩; have HB7 : Hid (Below wo.heap.size wo w7) := Lib.hid (HB.out.drew.trans (hb7.mono HB.out.drew.size)); clear hb7)
                 | (go_at_call 159; (with_reducible refine (LB.out _).mono ?_); rintro e w8 ⟨rfl, hb8⟩; have HB8 : Hid (Below wo.heap.size wo w8) := Lib.hid (HB7.out.trans (hb8.mono HB7.out.size)); clear hb8))
             go_wp2_with fail
             go_meet
             case rel => exact ⟨rfl, HB8.out⟩
           case rest =>
             obtain ⟨rfl, hb9⟩ := hcut
             have HB9 := Lib.hid hb9
             clear hb9 z0 zx z5 SB LA
             cases hq2 : (lowL (x.take 1) == lowL p) with
             | true =>
               have HDD : Hid (dupX exts p = true) := Lib.hid (by rw [HD.out, HST.out, hq2]; rfl)
               clear hq2 HD
               go_wp2_with fail
               go_ret
               obtain ⟨hown, hv, hR, hg⟩ := HQ.out
               exact .inl ⟨HDD.out, rfl, (hg.trans (FrameX.of_below HB9.out _)).mono (fun c hc _ => by simp at hc; simp [hc])⟩
             | false =>
               have HD2 : Hid (dupX exts p = dupX (exts.drop (j + 1)) p) := Lib.hid (by rw [HD.out, HST.out, hq2]; rfl)
               clear hq2 HD
               go_wp2_with fail
               go_roundw
               case rel => exact ⟨j + 1, by go_num, hlt, HD2, HB9.out⟩
               case measure => simp [intOf]; omega
         · obtain rfl : j = exts.length := by omega
           have HDD : Hid (dupX exts p = false) := Lib.hid (by rw [HD.out, List.drop_length]; rfl)
           clear HD hj hlt
           go_wp2_with fail
           have JD : Hid (∀ u, Below wo.heap.size wo u -> Calls Tryz.prog 214 #[.slice (some ⟨ga, 0, none⟩) nn cap] u fun e w' => e = .returned (.string (B (joinD (p :: taken)))) /\ Below u.heap.size u w') := Lib.hid (fun u h => by
             have hc := refJoined_l (p :: taken) (some ⟨ga, 0, none⟩) cap u (by rw [HNN.out]; omega) (by rw [joinD_flat, List.length_append]; have := HFL.out; have := HNN.out; simp at this; omega) (HHA.out.below h)
             rw [HNN.out] at hc
             exact hc)
           have HBR := Lib.hid hb
           generalize hjj : joinD (p :: taken) = jj at JD
           have HJJ := Lib.hid hjj
           clear hjj hb
           have hsz : base <= wo.heap.size := Nat.le_trans hbase hsw
           go_region_law (first
             | (go_simp; go_at_call 214; (with_reducible refine (JD.out _ (by first | exact HBR.out | exact HBR.out.drew)).mono ?_); rintro e w10 ⟨rfl, hb10⟩; have HB10 : Hid (Below wo.heap.size wo w10) := Lib.hid (HBR.out.drew.trans (hb10.mono HBR.out.drew.size)); have hT10 := hTT.out.1.below HB10.out hto; have hE10 := (ownsRow_below hTT.out.2 HB10.out).alloc (.cells #[.string (B jj)] 9); have x5 := (row_of hT10 5 _ rfl).1; have n10 := World.new_ne w10 _ x5; have lt10 : tb < w10.heap.size := World.block_lt_of_cell? _ _ x5; have HT10 := Lib.hid hT10; have hs10 := HB10.out.size; clear hb10 hT10)
             | (refine step_append_texts rfl (.tmp 59) (.tmp 62) 141 rfl base 9 i0 (.string ⟨#[]⟩) 16 Tryz.underlying141 hi hz0 hz1 hz2 rfl (.slice ea exts.length ecap) exts.length (exts.map strV) (by simp [Act.eval]) (by exact hE10) (some ⟨w10.heap.size, 0, none⟩) 1 1 [.string (B jj)] (by simp [Act.eval]) (by simp) (by exact at_one _ _ _) (fun h => nomatch h) (fun u hu => by rw [List.mem_singleton.1 hu]; rfl) (by unfold maxLen; omega) (by omega) (by simp; omega) ?_
                intro v11 w11 hown11 hg11 ho11
                have hx11 : w10.grownBy w11 (Value.slice ea exts.length ecap).ownBlock := grown_trans (World.grownBy_alloc w10 _ _) hg11
                have nt : some tb ≠ (Value.slice ea exts.length ecap).ownBlock := fun e => (HEV.out tb e.symm).2.2 rfl
                have hT11 := HT10.out.grown hx11 nt (by omega)
                have x11 := (row_of hT11 5 _ rfl).1
                have f11 := (row_of hT11 5 _ rfl).2
                have hl11 : (exts ++ [jj]).length = exts.length + 1 := by simp
                have hown12 : w11.ownsRow base 9 1 v11 (exts ++ [jj]).length ((exts ++ [jj]).map strV) := by rw [hl11, List.map_append]; exact hown11
                have ho12 : v11.ownBlock = (Value.slice ea exts.length ecap).ownBlock \/ ∃ g, w.heap.size <= g /\ v11.ownBlock = some g := ho11.imp id (fun h => ⟨_, by simp; omega, h⟩)
                have HY := Lib.hid (And.intro hx11 (And.intro hT11 (And.intro hown12 ho12)))
                obtain ⟨g11, c11, rfl, _, _, _⟩ := ownsRow_at hown11
                clear hx11 nt hT11 hl11 hown12 ho12 hown11 hg11 ho11 hE10 x5))
           all_goals go_wp2_with fail
           all_goals
             go_ret
             obtain ⟨hown, hv, hR, hg⟩ := HQ.out
             obtain ⟨hx11, hT11, hown12, ho12⟩ := HY.out
             have hgs := grownBy_set w11 tb 5 (.slice g11 (exts.length + 1) c11)
             have nb : some b ≠ (Value.slice ea exts.length ecap).ownBlock := fun e => (HEV.out b e.symm).2.1 rfl
             have nk : some k ≠ (Value.slice ea exts.length ecap).ownBlock := fun e => (HEV.out k e.symm).1 rfl
             have hv12 := ((hv.below HB10.out).grown hx11 nk).grown hgs (by simpa using hkt)
             have hR12 := ((hR.below HB10.out hbr).grown hx11 nb (by have := HB10.out.size; omega)).grown hgs (by simpa using hbt) (by have := HB10.out.size; have := hx11.size; omega)
             have hF := ((((hg.mono (cs := b :: tb :: (Value.slice ea exts.length ecap).ownBlock.toList) (fun c hc _ => by simp at hc; simp [hc])).trans (FrameX.of_below HB10.out _)).step hx11 (fun g h => .inr (by rw [h]; simp))).step hgs (fun g h => .inr (by cases h; simp)))
             have hown13 := hown12.kept hgs (by
               rcases ho12 with h | ⟨g, hge, h⟩
               · rw [h]
                 cases hob : (Value.slice ea exts.length ecap).ownBlock with
                 | none => exact .inl rfl
                 | some g => exact .inr (fun e => (HEV.out g hob).2.2 (by cases e; rfl))
               · rw [h]
                 exact .inr (fun e => by cases e; omega))
             unfold RExtPost
             rw [HE2.out]
             refine .inr ⟨HDD.out, ?_, _, _, hv12, hR12, hT11.set (j := 5) (by simp) _, by rw [HJJ.out]; exact hown13, ho12, hF⟩
             have hnz := HNN.out
             simp at hnz
             cases taken with
             | nil => simp at hnz; subst hnz; rfl
             | cons y z =>
               have : decide (1 < (nn : Int)) = true := decide_eq_true (by simp at hnz; omega)
               exact ret_bool (by first | (rw [this]; rfl) | (simp; simp at hnz; omega))
end Go.Proofs.YtfocpjcbfbbpgaaGreatDoor
namespace Go.Proofs.YtfocpjcbfbbpgaaGreatDoor
open Go.RowKit
set_option maxRecDepth 100000
theorem lowB_x (c : UInt8) : lowB c = 120 ↔ (c = 120 \/ c = 88) := by
 unfold lowB
 rw [<- UInt8.toNat_inj, <- UInt8.toNat_inj, <- UInt8.toNat_inj]
 have := c.toNat_lt
 split
 · rw [UInt8.toNat_add]
   simp
   omega
 · simp
   omega
theorem lowL_x (p : List UInt8) : (lowL p == [120]) = privB p := by
 rw [Bool.eq_iff_iff]
 unfold privB
 match p with
 | [] => simp [lowL]
 | [c] => simp [lowL, lowB_x]
 | c :: d :: r => simp [lowL]
theorem privB_len {p : List UInt8} (h : privB p = true) : p.length = 1 := by
 unfold privB at h
 simp at h
 rcases h with h | h <;> simp [h]
theorem madeB_short {p : List UInt8} {lo hi : Nat} {pu : Bool} (h : p.length < lo) : madeB p lo hi pu = false := by
 cases hm : madeB p lo hi pu with
 | false => rfl
 | true => have := (made_len hm).1; omega
theorem priv_no {p : List UInt8} (h : privB p = true) : madeB p 4 4 true = false /\ regionB p = false /\ variantB p = false /\ (madeB p 1 1 false && !privB p) = false := by
 have hl := privB_len h
 refine ⟨madeB_short (by omega), ?_, ?_, by rw [h]; simp⟩
 · unfold regionB
   rw [madeB_short (by omega)]
   have : (p.length == 3) = false := by rw [hl]; rfl
   rw [this]
   rfl
 · unfold variantB
   rw [madeB_short (by omega), madeB_short (by omega)]
   rfl
theorem restF_priv {ps : List (List UInt8)} (h : seesPriv ps = true) : restF [] [] ps = some (noTag, ps) := by
 rcases ps with _ | ⟨p, r⟩
 · cases h
 have hp : privB p = true := h
 obtain ⟨h1, h2, h3, h4⟩ := priv_no hp
 have e1 : oneF (fun p => madeB p 4 4 true) (p :: r) = ([], p :: r) := oneF_no h1
 have e2 : oneF regionB (p :: r) = ([], p :: r) := oneF_no h2
 have e3 : varsF [] (p :: r) = some ([], p :: r) := varsF_no h3
 have e4 : extsF ([].map lowL) (p :: r) = some ([], p :: r) := extsF_no h4
 unfold restF
 simp only [e1, e2, e3, e4]
 rfl
theorem langF_ne {ps : List (List UInt8)} {l e : List UInt8} {r : List (List UInt8)} (h : langF ps = some (l, e, r)) : l ≠ [] := by
 rcases ps with _ | ⟨p, q⟩
 · cases h
 · cases hm : madeB p 2 8 true with
   | false => rw [langF, if_neg (by rw [hm]; simp)] at h; cases h
   | true =>
     rw [langF_yes hm] at h
     have hl := (made_len hm).1
     split at h <;> (cases h; intro e; rw [e] at hl; simp at hl)
theorem variantB_len {p : List UInt8} (h : variantB p = true) : 4 <= p.length := by
 unfold variantB at h
 rw [Bool.or_eq_true, Bool.and_eq_true] at h
 rcases h with h | ⟨h, _⟩
 · have := (made_len h).1; omega
 · exact (made_len h).1
def SeenOK (low exts : List (List UInt8)) : Prop := ∀ p : List UInt8, p.length = 1 -> low.contains (lowL p) = dupX exts p
theorem SeenOK.start {vars : List (List UInt8)} (h : ∀ v ∈ vars, 4 <= v.length) : SeenOK (vars.map lowL) [] := by
 intro p hp
 have hd : dupX [] p = false := rfl
 rw [hd, <- Bool.not_eq_true, List.contains_iff_mem, List.mem_map]
 rintro ⟨v, hv, he⟩
 have h1 := h v hv
 have h2 := congrArg List.length he
 simp only [lowL, List.length_map] at h2
 omega
theorem SeenOK.step {low exts : List (List UInt8)} (h : SeenOK low exts) {p : List UInt8} (hp : p.length = 1) (m : List (List UInt8)) : SeenOK (low ++ [lowL p]) (exts ++ [joinD (p :: m)]) := by
 intro q hq
 have e : (joinD (p :: m)).take 1 = p := by rw [joinD_flat, <- hp, List.take_left]
 have h1 : dupX (exts ++ [joinD (p :: m)]) q = (dupX exts q || (lowL p == lowL q)) := by
   unfold dupX
   rw [List.any_append]
   simp [e]
 rw [h1, <- h q hq, Bool.eq_iff_iff, List.contains_iff_mem, Bool.or_eq_true, List.contains_iff_mem, List.mem_append, List.mem_singleton, beq_iff_eq]
 exact or_congr Iff.rfl eq_comm
def finalF : Option (TagL × List (List UInt8)) -> Option TagL
 | none => none
 | some (t, []) => some t
 | some (t, p :: r) => if privB p = true then (if privR r = true then some { t with priv := joinD (p :: r) } else none) else none
theorem finalF_cons (t : TagL) (p : List UInt8) (r : List (List UInt8)) : finalF (some (t, p :: r)) = if privB p = true then (if privR r = true then some { t with priv := joinD (p :: r) } else none) else none := rfl
theorem tagTail_all : ∀ (r : List (List UInt8)), (r.all fun q => madeB q 1 8 false) = true -> tagTail 1 r = (r, [])
 | [], _ => rfl
 | p :: r, h => by
   rw [List.all_cons, Bool.and_eq_true] at h
   rw [tagTail_yes h.1, tagTail_all r h.2]
theorem tagTail_part : ∀ (r : List (List UInt8)), (r.all fun q => madeB q 1 8 false) = false -> (tagTail 1 r).2 ≠ []
 | [], h => by cases h
 | p :: r, h => by
   cases hm : madeB p 1 8 false with
   | false => rw [tagTail_no hm]; simp
   | true =>
     rw [List.all_cons, hm, Bool.true_and] at h
     rw [tagTail_yes hm]
     exact tagTail_part r h
theorem tagP_final (ps : List (List UInt8)) : tagP ps = finalF (frontF ps) := by
 unfold tagP
 rcases frontF ps with _ | ⟨t, r⟩
 · rfl
 · rcases r with _ | ⟨p, r⟩
   · rfl
   · simp only [finalF]
     split
     · cases ha : r.all fun q => madeB q 1 8 false with
       | true =>
         rw [tagTail_all r ha]
         rcases r with _ | ⟨q, r⟩
         · simp [privR]
         · have hp : privR (q :: r) = true := by
             unfold privR
             rw [ha]
             rfl
           simp [hp]
       | false =>
         have h2 := tagTail_part r ha
         have hp : privR r = false := by unfold privR; rw [ha, Bool.and_false]
         rw [hp]
         simp [h2]
     · rfl
theorem ext3_suf : ∀ (n : Nat) (ps : List (List UInt8)), (ext3 n ps).2 <:+ ps
 | 0, ps => List.suffix_refl _
 | _ + 1, [] => List.suffix_refl _
 | n + 1, p :: r => by
   have ih := ext3_suf n r
   cases h : madeB p 3 3 true with
   | true => rw [ext3, if_pos h]; exact ih.trans (List.suffix_cons _ _)
   | false => rw [ext3, if_neg (by rw [h]; simp)]; exact List.suffix_refl _
theorem langF_suf {ps : List (List UInt8)} {l e : List UInt8} {r : List (List UInt8)} (h : langF ps = some (l, e, r)) : r <:+ ps := by
 rcases ps with _ | ⟨p, q⟩
 · cases h
 · cases hm : madeB p 2 8 true with
   | false => rw [langF, if_neg (by rw [hm]; simp)] at h; cases h
   | true =>
     rw [langF_yes hm] at h
     split at h
     · cases h; exact List.suffix_cons _ _
     · cases h; exact (ext3_suf 3 q).trans (List.suffix_cons _ _)
theorem oneF_suf (f : List UInt8 -> Bool) (ps : List (List UInt8)) : (oneF f ps).2 <:+ ps := by
 rcases ps with _ | ⟨p, r⟩
 · exact List.suffix_refl _
 · cases h : f p with
   | true => rw [oneF_yes h]; exact List.suffix_cons _ _
   | false => rw [oneF_no (show seesF f (p :: r) = false from h)]; exact List.suffix_refl _
theorem tagTail_suf (lo : Nat) : ∀ ps, (tagTail lo ps).2 <:+ ps
 | [] => List.suffix_refl _
 | p :: r => by
   cases hm : madeB p lo 8 false with
   | true => rw [tagTail_yes hm]; exact (tagTail_suf lo r).trans (List.suffix_cons _ _)
   | false => rw [tagTail_no hm]; exact List.suffix_refl _
theorem joinD_append_le : ∀ (a b : List (List UInt8)), (joinD b).length <= (joinD (a ++ b)).length
 | [], b => Nat.le_refl _
 | p :: a, b => by
   have h := joinD_append_le a b
   rw [List.cons_append, joinD_flat, List.length_append]
   rcases hq : a ++ b with _ | ⟨q, r⟩
   · rw [hq] at h
     have e0 : (joinD ([] : List (List UInt8))).length = 0 := rfl
     omega
   · rw [hq, joinD_flat] at h
     have e : flatH (q :: r) = 45 :: (q ++ flatH r) := by simp [flatH]
     rw [e, List.length_cons]
     omega
theorem joinD_suf {r ps : List (List UInt8)} (h : r <:+ ps) : (joinD r).length <= (joinD ps).length := by
 obtain ⟨a, rfl⟩ := h
 exact joinD_append_le a r
structure RC (w : World) (b tb k : Nat) : Prop where
 kb : k ≠ b
 kt : k ≠ tb
 tt : w.heap.size < tb
 bt : tb < b
 kl : k < b
structure RSt (w wx : World) (b tb k : Nat) (lv : Value) (left : List (List UInt8)) (l x sc rg : List UInt8) (vv ev : Value) (vars exts : List (List UInt8)) : Prop where
 view : ViewAt wx k lv left
 rd : RowAt wx b [lv]
 tg : RowAt wx tb [.string (B l), .string (B x), .string (B sc), .string (B rg), vv, ev, .string ⟨#[]⟩]
 ov : wx.ownsRow (b + 1) 9 1 vv vars.length (vars.map strV)
 oe : wx.ownsRow (b + 1) 9 1 ev exts.length (exts.map strV)
 ap : Apart vv ev
 zr : RowAt wx w.heap.size zeros7
 bl : Below w.heap.size w wx
section
variable {w wx wy : World} {b tb k : Nat} {lv : Value} {left : List (List UInt8)} {l x sc rg : List UInt8} {vv ev : Value} {vars exts : List (List UInt8)}
theorem RSt.lb (h : RSt w wx b tb k lv left l x sc rg vv ev vars exts) : b < wx.heap.size := World.block_lt_of_cell? _ _ (row_of h.rd 0 _ rfl).1
theorem RSt.lt (h : RSt w wx b tb k lv left l x sc rg vv ev vars exts) : tb < wx.heap.size := World.block_lt_of_cell? _ _ (row_of h.tg 0 _ rfl).1
theorem RSt.lz (h : RSt w wx b tb k lv left l x sc rg vv ev vars exts) : w.heap.size < wx.heap.size := World.block_lt_of_cell? _ _ (row_of h.zr 0 _ rfl).1
theorem RSt.below (h : RSt w wx b tb k lv left l x sc rg vv ev vars exts) (hb : Below wx.heap.size wx wy) : RSt w wy b tb k lv left l x sc rg vv ev vars exts :=
 ⟨h.view.below hb, h.rd.below hb h.lb, h.tg.below hb h.lt, ownsRow_below h.ov hb, ownsRow_below h.oe hb, h.ap, h.zr.below hb h.lz, h.bl.trans (hb.mono h.bl.size)⟩
theorem RSt.next (C : RC w b tb k) {lv' : Value} {left' : List (List UInt8)} (h : RSt w wx b tb k lv left l x sc rg vv ev vars exts) (hv : ViewAt wy k lv' left') (hr : RowAt wy b [lv']) (hg : wx.grownBy wy (some b)) : RSt w wy b tb k lv' left' l x sc rg vv ev vars exts :=
 ⟨hv, hr, h.tg.grown hg (by have := C.bt; simp; omega) h.lt, own_kept h.ov hg (Nat.lt_succ_self _), own_kept h.oe hg (Nat.lt_succ_self _), h.ap, h.zr.grown hg (by have := C.bt; have := C.tt; simp; omega) h.lz,
   h.bl.grown hg h.bl.size (fun j hj => by cases hj; have := C.bt; have := C.tt; omega)⟩
theorem RSt.script (C : RC w b tb k) (h : RSt w wx b tb k lv left l x sc rg vv ev vars exts) (p : List UInt8) : RSt w (wx.setCell ⟨tb, 2, none⟩ (.string (B p))) b tb k lv left l x p rg vv ev vars exts := by
 have hg := grownBy_set wx tb 2 (.string (B p))
 have h1 := C.bt
 have h2 := C.tt
 exact ⟨h.view.grown hg (by simpa using C.kt), h.rd.grown hg (by simp; omega) h.lb, h.tg.set (j := 2) (by simp) _, own_kept h.ov hg (by omega), own_kept h.oe hg (by omega), h.ap, h.zr.grown hg (by simp; omega) h.lz, h.bl.grown hg h.bl.size (fun j hj => by cases hj; omega)⟩
theorem RSt.region (C : RC w b tb k) (h : RSt w wx b tb k lv left l x sc rg vv ev vars exts) (p : List UInt8) : RSt w (wx.setCell ⟨tb, 3, none⟩ (.string (B p))) b tb k lv left l x sc p vv ev vars exts := by
 have hg := grownBy_set wx tb 3 (.string (B p))
 have h1 := C.bt
 have h2 := C.tt
 exact ⟨h.view.grown hg (by simpa using C.kt), h.rd.grown hg (by simp; omega) h.lb, h.tg.set (j := 3) (by simp) _, own_kept h.ov hg (by omega), own_kept h.oe hg (by omega), h.ap, h.zr.grown hg (by simp; omega) h.lz, h.bl.grown hg h.bl.size (fun j hj => by cases hj; omega)⟩
theorem RSt.frame0 (C : RC w b tb k) (h : RSt w wx b tb k lv left l x sc rg vv ev vars exts) (hg : FrameX wx wy [b, tb]) : RowAt wy w.heap.size zeros7 /\ Below w.heap.size w wy := by
 have h1 := C.bt
 have h2 := C.tt
 exact ⟨hg.row h.zr h.lz (by simp; omega), FrameX.below h.bl hg h.bl.size (fun c hc => by simp at hc; omega)⟩
theorem RSt.lang (C : RC w b tb k) {lv' : Value} {left' : List (List UInt8)} {l' x' : List UInt8} (h : RSt w wx b tb k lv left l x sc rg vv ev vars exts) (hg : FrameX wx wy [b, tb]) (hv : ViewAt wy k lv' left') (hr : RowAt wy b [lv'])
   (ht : RowAt wy tb [.string (B l'), .string (B x'), .string (B sc), .string (B rg), vv, ev, .string ⟨#[]⟩]) : RSt w wy b tb k lv' left' l' x' sc rg vv ev vars exts := by
 have h1 := C.bt
 have h2 := C.tt
 obtain ⟨hz, hb⟩ := h.frame0 C hg
 exact ⟨hv, hr, ht, hg.own h.ov (fun g hgx => by have := (h.ov.lt g hgx).1; simp; omega), hg.own h.oe (fun g hgx => by have := (h.oe.lt g hgx).1; simp; omega), h.ap, hz, hb⟩
theorem RSt.tgV (C : RC w b tb k) (h : RSt w wx b tb k lv left l x sc rg vv ev vars exts) (hg : wx.grownBy wy vv.ownBlock) : RowAt wy tb [.string (B l), .string (B x), .string (B sc), .string (B rg), vv, ev, .string ⟨#[]⟩] :=
 h.tg.grown hg (fun e => by have := (h.ov.lt tb e.symm).1; have := C.bt; omega) h.lt
theorem RSt.appV (C : RC w b tb k) {v9 : Value} {p : List UInt8} {n : Nat} (h : RSt w wx b tb k lv left l x sc rg vv ev vars exts) (hg : wx.grownBy wy vv.ownBlock) (ho : wy.ownsRow (b + 1) 9 1 v9 (vars ++ [p]).length ((vars ++ [p]).map strV))
   (hb : v9.ownBlock = vv.ownBlock \/ v9.ownBlock = some n) (hn : wx.heap.size <= n) : RSt w (wy.setCell ⟨tb, 4, none⟩ v9) b tb k lv left l x sc rg v9 ev (vars ++ [p]) exts := by
 have h1 := C.bt
 have h2 := C.tt
 have h3 := C.kl
 have hs := grownBy_set wy tb 4 v9
 have lt := h.ov.lt
 have nb : some b ≠ vv.ownBlock := fun e => by have := (lt b e.symm).1; omega
 have nk : some k ≠ vv.ownBlock := fun e => by have := (lt k e.symm).1; omega
 have nz : some w.heap.size ≠ vv.ownBlock := fun e => by have := (lt _ e.symm).1; omega
 exact ⟨(h.view.grown hg nk).grown hs (by simpa using C.kt), (h.rd.grown hg nb h.lb).grown hs (by simp; omega) (by have := hg.size; have := h.lb; omega), (h.tgV C hg).set (j := 4) (by simp) _, own_kept ho hs (by omega),
   own_kept (h.oe.kept hg h.ap.symm.ne) hs (by omega), h.ap.grows hb (fun g hg => by have := (h.oe.lt g hg).2; omega), (h.zr.grown hg nz h.lz).grown hs (by simp; omega) (by have := hg.size; have := h.lz; omega),
   (h.bl.grown hg h.bl.size (fun j hj => by have := (lt j hj).1; omega)).grown hs (by have := h.bl.size; have := hg.size; omega) (fun j hj => by cases hj; omega)⟩
theorem RSt.frameE (C : RC w b tb k) (h : RSt w wx b tb k lv left l x sc rg vv ev vars exts) (hg : FrameX wx wy (b :: tb :: ev.ownBlock.toList)) : RowAt wy w.heap.size zeros7 /\ Below w.heap.size w wy := by
 have h1 := C.bt
 have h2 := C.tt
 have hm : ∀ c, c ∈ b :: tb :: ev.ownBlock.toList -> w.heap.size < c := fun c hc => by
   rcases List.mem_cons.1 hc with rfl | hc
   · omega
   · rcases List.mem_cons.1 hc with rfl | hc
     · exact h2
     · have := (h.oe.lt c (by simpa using hc)).1; omega
 exact ⟨hg.row h.zr h.lz (fun hc => Nat.lt_irrefl _ (hm _ hc)), FrameX.below h.bl hg h.bl.size (fun c hc => Nat.le_of_lt (hm c hc))⟩
theorem RSt.ext (C : RC w b tb k) {lv' ev' : Value} {left' : List (List UInt8)} {p : List UInt8} (h : RSt w wx b tb k lv left l x sc rg vv ev vars exts) (hg : FrameX wx wy (b :: tb :: ev.ownBlock.toList)) (hv : ViewAt wy k lv' left') (hr : RowAt wy b [lv'])
   (ht : RowAt wy tb [.string (B l), .string (B x), .string (B sc), .string (B rg), vv, ev', .string ⟨#[]⟩]) (ho : wy.ownsRow (b + 1) 9 1 ev' (exts ++ [p]).length ((exts ++ [p]).map strV))
   (hb : ev'.ownBlock = ev.ownBlock \/ ∃ g, wx.heap.size <= g /\ ev'.ownBlock = some g) : RSt w wy b tb k lv' left' l x sc rg vv ev' vars (exts ++ [p]) := by
 have h1 := C.bt
 have h2 := C.tt
 obtain ⟨hz, hbl⟩ := h.frameE C hg
 refine ⟨hv, hr, ht, hg.own h.ov (fun g hgx => ?_), ho, ?_, hz, hbl⟩
 · have := (h.ov.lt g hgx).1
   intro hm
   rcases List.mem_cons.1 hm with rfl | hm
   · omega
   · rcases List.mem_cons.1 hm with rfl | hm
     · omega
     · exact h.ap g hgx (by simpa using hm)
 · intro g hgx he
   rcases hb with e | ⟨n, hn, e⟩
   · exact h.ap g hgx (e ▸ he)
   · rw [e] at he
     cases he
     have := (h.ov.lt _ hgx).2
     omega
theorem RSt.frameP (C : RC w b tb k) (h : RSt w wx b tb k lv left l x sc rg vv ev vars exts) (hg : FrameX wx wy [tb]) : RowAt wy w.heap.size zeros7 /\ Below w.heap.size w wy /\ wy.ownsRow (b + 1) 9 1 vv vars.length (vars.map strV) /\ wy.ownsRow (b + 1) 9 1 ev exts.length (exts.map strV) := by
 have h1 := C.bt
 have h2 := C.tt
 exact ⟨hg.row h.zr h.lz (by simp; omega), FrameX.below h.bl hg h.bl.size (fun c hc => by simp at hc; omega), hg.own h.ov (fun g hgx => by have := (h.ov.lt g hgx).1; simp; omega), hg.own h.oe (fun g hgx => by have := (h.oe.lt g hgx).1; simp; omega)⟩
end
end Go.Proofs.YtfocpjcbfbbpgaaGreatDoor
