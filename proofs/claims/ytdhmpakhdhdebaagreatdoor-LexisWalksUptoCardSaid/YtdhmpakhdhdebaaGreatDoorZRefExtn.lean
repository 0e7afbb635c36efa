/-
  The reference's reader: extension: contract. By an AI agent.
-/
import Derived.Test.YtdhmpakhdhdebaaGreatDoorZRefEsc3
import Derived.Deep.RegionHeld3
namespace Go.Proofs.YtdhmpakhdhdebaaGreatDoor
open Go.Lib (hid)
open Go.RowKit
set_option maxRecDepth 100000
def dupX (exts : List (List UInt8)) (p : List UInt8) : Bool := exts.any fun x => lowL (x.take 1) == lowL p
def RExtPost (w w' : World) (e : Ending) (b tb k base : Nat) (l0 l1 l2 l3 l4 l6 ev : Value) (exts : List (List UInt8)) (p : List UInt8) (ps : List (List UInt8)) : Prop :=
 (dupX exts p = true /\ e = .returned (.bool false) /\ FrameX w w' [b, tb]) \/
 (dupX exts p = false /\ e = .returned (.bool (!((tagTail 2 ps).1 == []))) /\ ∃ lv' ev', ViewAt w' k lv' (tagTail 2 ps).2 /\ RowAt w' b [lv'] /\ RowAt w' tb [l0, l1, l2, l3, l4, ev', l6] /\
  w'.ownsRow base 9 1 ev' (exts ++ [joinD (p :: (tagTail 2 ps).1)]).length ((exts ++ [joinD (p :: (tagTail 2 ps).1)]).map strV) /\ (ev'.ownBlock = ev.ownBlock \/ ∃ g, w.heap.size <= g /\ ev'.ownBlock = some g) /\ FrameX w w' (b :: tb :: ev.ownBlock.toList))
theorem ownsRow_one (w : World) (base : Nat) (u : Value) (hb : base <= w.heap.size) : (w.alloc (.cells #[u] 9)).ownsRow base 9 1 (.slice (some ⟨w.heap.size, 0, none⟩) 1 1) 1 [u] :=
 ⟨rfl, .inr ⟨w.heap.size, 1, #[u], rfl, hb, heap_alloc_last _ _, Nat.le_refl _, by decide, rfl, rfl⟩⟩
theorem both28 (p : List UInt8) (w : World) (hp : p.length <= 140737488351232) :
  Calls Tryz.prog 216 #[.string (B p), .int .i64 2, .int .i64 8] w fun e w' => e = .returned (.bool (madeB p 2 8 false)) /\ w' = w := both_l p 2 8 w hp (by omega) (by omega)
set_option maxHeartbeats 3200000 in
theorem rext_l (b tb k base : Nat) (l0 l1 l2 l3 l4 l6 ev : Value) (exts : List (List UInt8)) (p : List UInt8) (ps : List (List UInt8)) (lv : Value) (w : World) (hv : ViewAt w k lv (p :: ps)) (hR : RowAt w b [lv]) (hT : RowAt w tb [l0, l1, l2, l3, l4, ev, l6]) (hE : w.ownsRow base 9 1 ev exts.length (exts.map strV))
  (hk : k ≠ b) (hkt : k ≠ tb) (hbt : b ≠ tb) (hkw : k < w.heap.size) (hev : ∀ g, ev.ownBlock = some g -> g ≠ k /\ g ≠ b /\ g ≠ tb) (hbase : base <= w.heap.size) (hp1 : p.length = 1) (hp : ∀ p ∈ ps, p.length <= 4194304) (hn : ps.length <= 1500000) (hel : exts.length <= 4194305) (hx : ∀ x ∈ exts, 1 <= x.length /\ x.length <= 140737488351232) :
  Calls Tryz.prog 217 #[.pointer (some ⟨b, 0, none⟩), .pointer (some ⟨tb, 0, none⟩)] w fun e w' => RExtPost w w' e b tb k base l0 l1 l2 l3 l4 l6 ev exts p ps := by
 have hbw : b < w.heap.size := World.block_lt_of_cell? _ _ (row_of hR 0 _ rfl).1
 have htw : tb < w.heap.size := World.block_lt_of_cell? _ _ (row_of hT 0 _ rfl).1
 have N1 := hid (rnext_l b k p ps lv w hv hR hk)
 have NEXT := hid (fun p ps lv w => rnext_l b k p ps lv w)
 have HT := hid hT
 have HE := hid hE
 have HP := hid hp
 have HX := hid hx
 have HEV := hid hev
 obtain ⟨i0, hi, hz0, hz1, hz2⟩ := info_parts infoStr
 clear hv hR hT hE hp hx hev
 go_enter Tryz.func217, Tryz.ntmps217
 go_wp2_with (go_at_call 214; (with_reducible refine N1.out.mono ?_); rintro e w1 ⟨rfl, lv1, hv1, hR1, hg1⟩; have HX1 := hid (And.intro hv1 (And.intro hR1 hg1)); clear hv1 hR1 hg1)
 go_loopw [5] (fun sv wr => ∃ (taken left : List (List UInt8)) (lv : Value), wr.ownsRow w.heap.size 9 1 sv (p :: taken).length ((p :: taken).map strV) /\ taken.length + left.length = ps.length /\ (flatH taken).length <= 9 * taken.length /\ (∀ q ∈ left, q.length <= 4194304) /\ Hid (tagTail 2 ps = (taken ++ (tagTail 2 left).1, (tagTail 2 left).2)) /\ ViewAt wr k lv left /\ RowAt wr b [lv] /\ FrameX w wr [b]) (fun _ wr => cellLen wr b)
 case atStart =>
  obtain ⟨hv1, hR1, hg1⟩ := HX1.out
  have hb1 : Below w1.heap.size w1 (w1.alloc (.cells #[.string (B p)] 9)) := (Below.refl _ _).alloc (Nat.le_refl _) _
  exact ⟨[], ps, lv1, ownsRow_one w1 w.heap.size (.string (B p)) hg1.size, by simp, by simp [flatH], HP.out, hid (by simp), hv1.below hb1, hR1.below hb1 (World.block_lt_of_cell? _ _ (row_of hR1 0 _ rfl).1), ((FrameX.refl w [b]).step hg1 (fun j hj => by cases hj; simp)).trans (FrameX.of_below hb1 _)⟩
 case round =>
  clear HX1 N1
  obtain ⟨taken, left, lv, hown, hlen, hfl, hpp, HM, hv, hR, hg⟩ := hrel
  have hbr : b < wr.heap.size := World.block_lt_of_cell? _ _ (row_of hR 0 _ rfl).1
  have y0 := (row_of hR 0 _ rfl).1
  obtain ⟨a, cap, rfl, hcap, _, hA⟩ := ownsRow_at hown
  have HCM : Hid (cellLen wr b = left.length) := hid (by rw [cellLen_of (row_of hR 0 _ rfl).1, hv.len])
  cases hq : seesF (fun p => madeB p 2 8 false) left with
  | true =>
   rcases left with _ | ⟨q, left⟩
   ·cases hq
   have hmd : madeB q 2 8 false = true := hq
   have hql := (made_len hmd).2
   have BO := hid (both28 q wr (Nat.le_trans (hpp q (by simp)) (by omega)))
   rw [hmd] at BO
   have HE2 : Hid (tagTail 2 ps = ((taken ++ [q]) ++ (tagTail 2 left).1, (tagTail 2 left).2)) := hid (by rw [HM.out, tagTail_yes hmd]; simp)
   have hfl2 : (flatH (taken ++ [q])).length <= 9 * (taken ++ [q]).length := by rw [flatH_snoc]; simp; omega
   have HPP := hid (fun z (hz : z ∈ left) => hpp z (by simp [hz]))
   have N := hid (NEXT.out q left lv wr hv hR hk)
   obtain ⟨o, cp, rfl, hcc, hd, _⟩ := hv.cons
   have HG := hid hg
   have HFL := hid hfl2
   have HOW := hid hown
   have hsw : w.heap.size <= wr.heap.size := hg.size
   have hzz : decide (0 < (left.length : Int) + 1) = true := decide_eq_true (by omega)
   clear hv hR hg HM hq hmd hpp hown hA hfl2 hfl
   go_wp2_with (first
    | (go_at_call 216; (with_reducible refine BO.out.mono ?_); rintro e w6 ⟨rfl, hw6⟩; obtain rfl := hw6.symm)
    | (go_at_call 214; (with_reducible refine N.out.mono ?_); rintro e w7 ⟨rfl, lv7, hv7, hR7, hg7⟩; have hown7 := own_kept HOW.out hg7 hbw; have HX7 := hid (And.intro hv7 (And.intro hR7 hg7)); have hs7 : w.heap.size <= w7.heap.size := Nat.le_trans hsw hg7.size; clear hv7 hR7 hg7)
    | (at_builtin; refine wpList_append_texts rfl (.tmp 28) (.tmp 30) 190 rfl w.heap.size 9 i0 (.string ⟨#[]⟩) 16 Tryz.underlying190 hi hz0 hz1 hz2 rfl _ _ _ rfl (hown7.alloc _) (some ⟨w7.heap.size, 0, none⟩) 1 1 [.string (B q)] rfl rfl (at_one _ _ _) (fun h => nomatch h) (fun u hu => by rw [List.mem_singleton.1 hu]; rfl) ?c4 ?c5 ?c6 ?_)
    | fail)
   case c4 => simp; unfold maxLen; simp at hlen; omega
   case c5 => simp; simp at hlen; omega
   case c6 => rw [World.size_alloc]; omega
   intro v8 w8 hown8 hg8 ho8
   obtain ⟨hv7, hR7, hg7⟩ := HX7.out
   have lt7 : ∀ g, (Value.slice a (p :: taken).length cap).ownBlock = some g -> w.heap.size <= g /\ g < w7.heap.size := fun g h => hown7.lt g h
   have hx8 : w7.grownBy w8 (Value.slice a (p :: taken).length cap).ownBlock := grown_trans (World.grownBy_alloc w7 _ _) hg8
   have hF8 : FrameX w w8 [b] := (HG.out.step hg7 (fun j hj => by cases hj; simp)).step hx8 (fun g h => .inl (lt7 g h).1)
   have nb : some b ≠ (Value.slice a (p :: taken).length cap).ownBlock := fun e => by have := (lt7 b e.symm).1; omega
   have nk : some k ≠ (Value.slice a (p :: taken).length cap).ownBlock := fun e => by have := (lt7 k e.symm).1; omega
   have hown9 : w8.ownsRow w.heap.size 9 1 v8 (p :: (taken ++ [q])).length ((p :: (taken ++ [q])).map strV) := by
    have e : (p :: (taken ++ [q])) = (p :: taken) ++ [q] := rfl
    rw [e, List.length_append, List.map_append]; exact hown8
   have HQ := hid (And.intro hown9 (And.intro (hv7.grown hx8 nk) (And.intro (hR7.grown hx8 nb (by omega)) hF8)))
   clear hv7 hR7 hg7 lt7 hx8 hF8 nb nk hown8 hown9 hg8 ho8 hown7 HX7
   go_wp2_with fail
   go_roundw
   case rel =>
    obtain ⟨h1, h2, h3', h5⟩ := HQ.out
    exact ⟨taken ++ [q], left, lv7, h1, by simp at hlen ⊢; omega, HFL.out, HPP.out, HE2, h2, h3', h5⟩
   case measure =>
    obtain ⟨h1, h2, h3', h5⟩ := HQ.out
    rw [HCM.out, cellLen_of (row_of h3' 0 _ rfl).1, h2.len]
    simp
  | false =>
   have HE2 : Hid (tagTail 2 ps = (taken, left)) := hid (by
    rw [HM.out]
    rcases left with _ | ⟨q, left⟩
    ·simp [tagTail]
    ·have hmd : madeB q 2 8 false = false := hq
     rw [tagTail_no hmd]; simp)
   have BO : Hid (∀ q r, left = q :: r -> Calls Tryz.prog 216 #[.string (B q), .int .i64 2, .int .i64 8] wr fun e w' => e = .returned (.bool false) /\ w' = wr) := hid (fun q r h => by
    subst h
    have hmd : madeB q 2 8 false = false := hq
    exact hmd ▸ both28 q wr (Nat.le_trans (hpp q (by simp)) (by omega)))
   have HQ := hid (And.intro hown (And.intro hv (And.intro hR hg)))
   have hT := hg.row HT.out htw (by simpa using fun h => hbt h.symm)
   have hE := hg.own HE.out (fun g hgx => by simpa using (HEV.out g hgx).2.1)
   obtain ⟨ea, ecap, rfl, hecap, _, hEA⟩ := ownsRow_at hE
   have y5 := (row_of hT 5 _ rfl).1
   have hTT := hid (And.intro hT hE)
   have hEAA := hid hEA
   have hsw : w.heap.size <= wr.heap.size := hg.size
   obtain ⟨nn, hnn⟩ : ∃ nn, (p :: taken).length = nn := ⟨_, rfl⟩
   have HNN := hid hnn
   have hnn1 : nn <= 1500001 := by rw [<- hnn]; simp; omega
   have hnn0 : 0 < nn := by rw [<- hnn]; simp
   have hnn2 : (0 : Int) < (nn : Int) := by omega
   have HFL := hid hfl
   have hka : ∃ g, a = some ⟨g, 0, none⟩ := by
    obtain ⟨g, o, rfl⟩ := hA.place (by simp)
    have h := hown.2
    rcases h with ⟨h, _⟩ | ⟨g', _, _, h, _⟩
    ·cases h
    ·cases h
     exact ⟨_, rfl⟩
   obtain ⟨ga, rfl⟩ := hka
   have a0 : wr.cell? ⟨ga, 0, none⟩ = some (.string (B p)) := by
    have h := hA.get (j := 0) (by simp)
    simpa [strV] using h
   obtain ⟨wo, rfl⟩ : ∃ wo : World, wo = wr := ⟨_, rfl⟩
   have hga : ga < wo.heap.size := World.block_lt_of_cell? _ _ a0
   have hto : tb < wo.heap.size := World.block_lt_of_cell? _ _ y5
   have LB := hid (fun u => refLower_l p u (by unfold maxLen; omega))
   rw [hnn] at hown HQ hcap ⊢
   have HHA := hid hA
   clear hown hT hE hEA hg hA HM hpp hfl hnn
   have hleft : (left = []) \/ ∃ q r, left = q :: r := by rcases left with _ | ⟨q, r⟩ <;> simp
   rcases hleft with h | ⟨q, r, h⟩
   ·subst h
    obtain ⟨o, cp, rfl⟩ := hv.empty
    clear hv hR hq
    go_wp2_with fail
    go_loopw [7] (fun i wr => ∃ j : Nat, i = .int .i64 j /\ j <= exts.length /\ Hid (dupX exts p = dupX (exts.drop j) p) /\ Below wo.heap.size wo wr) (fun i _ => exts.length - (intOf i).toNat)
    case atStart => exact ⟨0, rfl, Nat.zero_le _, hid (by simp), Below.refl _ _⟩
    case round =>
     obtain ⟨j, rfl, hj, HD, hb⟩ := hrel
     have z5 : wr.cell? ⟨tb, 5, none⟩ = some (.slice ea exts.length ecap) := (hb.cell (p := ⟨tb, 5, none⟩) hto).trans y5
     have z0 : wr.cell? ⟨ga, 0, none⟩ = some (.string (B p)) := (hb.cell (p := ⟨ga, 0, none⟩) hga).trans a0
     by_cases hlt : j < exts.length
     ·obtain ⟨eb, eo, rfl⟩ := hEAA.out.place (by simp; omega)
      have hxc := strAt hEAA.out hlt
      have hxl := HX.out exts[j] (List.getElem_mem ..)
      obtain ⟨x, hx⟩ : ∃ x, exts[j] = x := ⟨_, rfl⟩
      rw [hx] at hxc hxl
      have hst : dupX (exts.drop j) p = (lowL (x.take 1) == lowL p || dupX (exts.drop (j + 1)) p) := by
       unfold dupX
       rw [List.drop_eq_getElem_cons hlt, hx, List.any_cons]
      have hxo : eb < wo.heap.size := World.block_lt_of_cell? _ _ hxc
      have zx : wr.cell? ⟨eb, eo + j, none⟩ = some (.string (B x)) := (hb.cell (p := ⟨eb, eo + j, none⟩) hxo).trans hxc
      have LA := hid (fun u => refLower_l (x.take 1) u (by simp; unfold maxLen; omega))
      have hx1 : (1 : Int) <= (x.length : Int) := by have := hxl.1; omega
      have hx2 := hxl.2
      have SB : Hid (∀ u, Below wo.heap.size wo u -> u.cell? ⟨tb, 5, none⟩ = some (.slice (some ⟨eb, eo, none⟩) exts.length ecap) /\ u.cell? ⟨eb, eo + j, none⟩ = some (.string (B x)) /\ u.cell? ⟨ga, 0, none⟩ = some (.string (B p))) :=
       hid (fun u h => ⟨(h.cell (p := ⟨tb, 5, none⟩) hto).trans y5, (h.cell (p := ⟨eb, eo + j, none⟩) hxo).trans hxc, (h.cell (p := ⟨ga, 0, none⟩) hga).trans a0⟩)
      have HB := hid hb
      have HST := hid hst
      have HXX := hid hx
      clear hst hx hxl hb hxc
      go_upto_region 8 with fail
      go_cut [54] (fun s wx => s = .bool (lowL (x.take 1) == lowL p) /\ Below wo.heap.size wo wx)
      case first =>
       go_region_held3 (fun w' => w'.cell? ⟨tb, 5, none⟩ = some (.slice (some ⟨eb, eo, none⟩) exts.length ecap) /\ w'.cell? ⟨eb, eo + j, none⟩ = some (.string (B x)) /\ w'.cell? ⟨ga, 0, none⟩ = some (.string (B p))) (first | exact ⟨z5, zx, z0⟩ | exact SB.out _ HB8.out | exact SB.out _ HB7.out)
        (first
         | (go_at_call 167; (with_reducible refine (LA.out _).mono ?_); rintro e w7 ⟨rfl, hb7⟩; have HB7 : Hid (Below wo.heap.size wo w7) := hid (HB.out.drew.trans (hb7.mono HB.out.drew.size)); clear hb7)
         | (go_at_call 167; (with_reducible refine (LB.out _).mono ?_); rintro e w8 ⟨rfl, hb8⟩; have HB8 : Hid (Below wo.heap.size wo w8) := hid (HB7.out.trans (hb8.mono HB7.out.size)); clear hb8))
       go_wp2_with fail
       go_meet
       case rel => exact ⟨rfl, HB8.out⟩
      case rest =>
       obtain ⟨rfl, hb9⟩ := hcut
       have HB9 := hid hb9
       clear hb9 z0 zx z5 SB LA
       cases hq2 : (lowL (x.take 1) == lowL p) with
       | true =>
        have HDD : Hid (dupX exts p = true) := hid (by rw [HD.out, HST.out, hq2]; rfl)
        clear hq2 HD
        go_wp2_with fail
        go_ret
        obtain ⟨hown, hv, hR, hg⟩ := HQ.out
        exact .inl ⟨HDD.out, rfl, (hg.trans (FrameX.of_below HB9.out _)).mono (fun c hc _ => by simp at hc; simp [hc])⟩
       | false =>
        have HD2 : Hid (dupX exts p = dupX (exts.drop (j + 1)) p) := hid (by rw [HD.out, HST.out, hq2]; rfl)
        clear hq2 HD
        go_wp2_with fail
        go_roundw
        case rel => exact ⟨j + 1, by go_num, hlt, HD2, HB9.out⟩
        case measure => simp [intOf]; omega
     ·obtain rfl : j = exts.length := by omega
      have HDD : Hid (dupX exts p = false) := hid (by rw [HD.out, List.drop_length]; rfl)
      clear HD hj hlt
      go_wp2_with fail
      have JD : Hid (∀ u, Below wo.heap.size wo u -> Calls Tryz.prog 235 #[.slice (some ⟨ga, 0, none⟩) nn cap] u fun e w' => e = .returned (.string (B (joinD (p :: taken)))) /\ Below u.heap.size u w') := hid (fun u h => by
       have hc := refJoined_l (p :: taken) (some ⟨ga, 0, none⟩) cap u (by rw [HNN.out]; omega) (by rw [joinD_flat, List.length_append]; have := HFL.out; have := HNN.out; simp at this; omega) (HHA.out.below h)
       rw [HNN.out] at hc
       exact hc)
      have HBR := hid hb
      generalize hjj : joinD (p :: taken) = jj at JD
      have HJJ := hid hjj
      clear hjj hb
      have hsz : base <= wo.heap.size := Nat.le_trans hbase hsw
      go_region_law (first
       | (go_simp; go_at_call 235; (with_reducible refine (JD.out _ (by first | exact HBR.out | exact HBR.out.drew)).mono ?_); rintro e w10 ⟨rfl, hb10⟩; have HB10 : Hid (Below wo.heap.size wo w10) := hid (HBR.out.drew.trans (hb10.mono HBR.out.drew.size)); have hT10 := hTT.out.1.below HB10.out hto; have hE10 := (ownsRow_below hTT.out.2 HB10.out).alloc (.cells #[.string (B jj)] 9); have x5 := (row_of hT10 5 _ rfl).1; have n10 := World.new_ne w10 _ x5; have lt10 : tb < w10.heap.size := World.block_lt_of_cell? _ _ x5; have HT10 := hid hT10; have hs10 := HB10.out.size; clear hb10 hT10)
       | (refine step_append_texts rfl (.tmp 59) (.tmp 62) 190 rfl base 9 i0 (.string ⟨#[]⟩) 16 Tryz.underlying190 hi hz0 hz1 hz2 rfl (.slice ea exts.length ecap) exts.length (exts.map strV) (by simp [Act.eval]) (by exact hE10) (some ⟨w10.heap.size, 0, none⟩) 1 1 [.string (B jj)] (by simp [Act.eval]) (by simp) (by exact at_one _ _ _) (fun h => nomatch h) (fun u hu => by rw [List.mem_singleton.1 hu]; rfl) (by unfold maxLen; omega) (by omega) (by simp; omega) ?_
          intro v11 w11 hown11 hg11 ho11
          have hx11 : w10.grownBy w11 (Value.slice ea exts.length ecap).ownBlock := grown_trans (World.grownBy_alloc w10 _ _) hg11
          have nt : some tb ≠ (Value.slice ea exts.length ecap).ownBlock := fun e => (HEV.out tb e.symm).2.2 rfl
          have hT11 := HT10.out.grown hx11 nt (by omega)
          have x11 := (row_of hT11 5 _ rfl).1
          have f11 := (row_of hT11 5 _ rfl).2
          have hl11 : (exts ++ [jj]).length = exts.length + 1 := by simp
          have hown12 : w11.ownsRow base 9 1 v11 (exts ++ [jj]).length ((exts ++ [jj]).map strV) := by rw [hl11, List.map_append]; exact hown11
          have ho12 : v11.ownBlock = (Value.slice ea exts.length ecap).ownBlock \/ ∃ g, w.heap.size <= g /\ v11.ownBlock = some g := ho11.imp id (fun h => ⟨_, by simp; omega, h⟩)
          have HY := hid (And.intro hx11 (And.intro hT11 (And.intro hown12 ho12)))
          obtain ⟨g11, c11, rfl, _, _, _⟩ := ownsRow_at hown11
          clear hx11 nt hT11 hl11 hown12 ho12 hown11 hg11 ho11 hE10 x5))
      all_goals go_wp2_with fail
      all_goals
       go_ret
       obtain ⟨hown, hv, hR, hg⟩ := HQ.out
       obtain ⟨hx11, hT11, hown12, ho12⟩ := HY.out
       have hgs := grownBy_set w11 tb 5 (.slice g11 (exts.length + 1) c11)
       have nb : some b ≠ (Value.slice ea exts.length ecap).ownBlock := fun e => (HEV.out b e.symm).2.1 rfl
       have nk : some k ≠ (Value.slice ea exts.length ecap).ownBlock := fun e => (HEV.out k e.symm).1 rfl
       have hv12 := ((hv.below HB10.out).grown hx11 nk).grown hgs (by simpa using hkt)
       have hR12 := ((hR.below HB10.out hbr).grown hx11 nb (by have := HB10.out.size; omega)).grown hgs (by simpa using hbt) (by have := HB10.out.size; have := hx11.size; omega)
       have hF := ((((hg.mono (cs := b :: tb :: (Value.slice ea exts.length ecap).ownBlock.toList) (fun c hc _ => by simp at hc; simp [hc])).trans (FrameX.of_below HB10.out _)).step hx11 (fun g h => .inr (by rw [h]; simp))).step hgs (fun g h => .inr (by cases h; simp)))
       have hown13 := hown12.kept hgs (by
        rcases ho12 with h | ⟨g, hge, h⟩
        ·rw [h]
         cases hob : (Value.slice ea exts.length ecap).ownBlock with
         | none => exact .inl rfl
         | some g => exact .inr (fun e => (HEV.out g hob).2.2 (by cases e; rfl))
        ·rw [h]
         exact .inr (fun e => by cases e; omega))
       unfold RExtPost
       rw [HE2.out]
       refine .inr ⟨HDD.out, ?_, _, _, hv12, hR12, hT11.set (j := 5) (by simp) _, by rw [HJJ.out]; exact hown13, ho12, hF⟩
       have hnz := HNN.out
       simp at hnz
       cases taken with
       | nil => simp at hnz; subst hnz; rfl
       | cons y z =>
        have : decide (1 < (nn : Int)) = true := decide_eq_true (by simp at hnz; omega)
        exact ret_bool (by first | (rw [this]; rfl) | (simp; simp at hnz; omega))
   ·subst h
    obtain ⟨o, cp, rfl, hcc, hd, _⟩ := hv.cons
    have hzz : decide (0 < (r.length : Int) + 1) = true := decide_eq_true (by omega)
    have B1 := hid (BO.out q r rfl)
    clear hv hR hq
    go_wp2_with (go_at_call 216; (with_reducible refine B1.out.mono ?_); rintro e w6 ⟨rfl, hw6⟩; obtain rfl := hw6.symm)
    go_loopw [7] (fun i wr => ∃ j : Nat, i = .int .i64 j /\ j <= exts.length /\ Hid (dupX exts p = dupX (exts.drop j) p) /\ Below wo.heap.size wo wr) (fun i _ => exts.length - (intOf i).toNat)
    case atStart => exact ⟨0, rfl, Nat.zero_le _, hid (by simp), Below.refl _ _⟩
    case round =>
     obtain ⟨j, rfl, hj, HD, hb⟩ := hrel
     have z5 : wr.cell? ⟨tb, 5, none⟩ = some (.slice ea exts.length ecap) := (hb.cell (p := ⟨tb, 5, none⟩) hto).trans y5
     have z0 : wr.cell? ⟨ga, 0, none⟩ = some (.string (B p)) := (hb.cell (p := ⟨ga, 0, none⟩) hga).trans a0
     by_cases hlt : j < exts.length
     ·obtain ⟨eb, eo, rfl⟩ := hEAA.out.place (by simp; omega)
      have hxc := strAt hEAA.out hlt
      have hxl := HX.out exts[j] (List.getElem_mem ..)
      obtain ⟨x, hx⟩ : ∃ x, exts[j] = x := ⟨_, rfl⟩
      rw [hx] at hxc hxl
      have hst : dupX (exts.drop j) p = (lowL (x.take 1) == lowL p || dupX (exts.drop (j + 1)) p) := by
       unfold dupX
       rw [List.drop_eq_getElem_cons hlt, hx, List.any_cons]
      have hxo : eb < wo.heap.size := World.block_lt_of_cell? _ _ hxc
      have zx : wr.cell? ⟨eb, eo + j, none⟩ = some (.string (B x)) := (hb.cell (p := ⟨eb, eo + j, none⟩) hxo).trans hxc
      have LA := hid (fun u => refLower_l (x.take 1) u (by simp; unfold maxLen; omega))
      have hx1 : (1 : Int) <= (x.length : Int) := by have := hxl.1; omega
      have hx2 := hxl.2
      have SB : Hid (∀ u, Below wo.heap.size wo u -> u.cell? ⟨tb, 5, none⟩ = some (.slice (some ⟨eb, eo, none⟩) exts.length ecap) /\ u.cell? ⟨eb, eo + j, none⟩ = some (.string (B x)) /\ u.cell? ⟨ga, 0, none⟩ = some (.string (B p))) :=
       hid (fun u h => ⟨(h.cell (p := ⟨tb, 5, none⟩) hto).trans y5, (h.cell (p := ⟨eb, eo + j, none⟩) hxo).trans hxc, (h.cell (p := ⟨ga, 0, none⟩) hga).trans a0⟩)
      have HB := hid hb
      have HST := hid hst
      have HXX := hid hx
      clear hst hx hxl hb hxc
      go_upto_region 8 with fail
      go_cut [54] (fun s wx => s = .bool (lowL (x.take 1) == lowL p) /\ Below wo.heap.size wo wx)
      case first =>
       go_region_held3 (fun w' => w'.cell? ⟨tb, 5, none⟩ = some (.slice (some ⟨eb, eo, none⟩) exts.length ecap) /\ w'.cell? ⟨eb, eo + j, none⟩ = some (.string (B x)) /\ w'.cell? ⟨ga, 0, none⟩ = some (.string (B p))) (first | exact ⟨z5, zx, z0⟩ | exact SB.out _ HB8.out | exact SB.out _ HB7.out)
        (first
         | (go_at_call 167; (with_reducible refine (LA.out _).mono ?_); rintro e w7 ⟨rfl, hb7⟩; have HB7 : Hid (Below wo.heap.size wo w7) := hid (HB.out.drew.trans (hb7.mono HB.out.drew.size)); clear hb7)
         | (go_at_call 167; (with_reducible refine (LB.out _).mono ?_); rintro e w8 ⟨rfl, hb8⟩; have HB8 : Hid (Below wo.heap.size wo w8) := hid (HB7.out.trans (hb8.mono HB7.out.size)); clear hb8))
       go_wp2_with fail
       go_meet
       case rel => exact ⟨rfl, HB8.out⟩
      case rest =>
       obtain ⟨rfl, hb9⟩ := hcut
       have HB9 := hid hb9
       clear hb9 z0 zx z5 SB LA
       cases hq2 : (lowL (x.take 1) == lowL p) with
       | true =>
        have HDD : Hid (dupX exts p = true) := hid (by rw [HD.out, HST.out, hq2]; rfl)
        clear hq2 HD
        go_wp2_with fail
        go_ret
        obtain ⟨hown, hv, hR, hg⟩ := HQ.out
        exact .inl ⟨HDD.out, rfl, (hg.trans (FrameX.of_below HB9.out _)).mono (fun c hc _ => by simp at hc; simp [hc])⟩
       | false =>
        have HD2 : Hid (dupX exts p = dupX (exts.drop (j + 1)) p) := hid (by rw [HD.out, HST.out, hq2]; rfl)
        clear hq2 HD
        go_wp2_with fail
        go_roundw
        case rel => exact ⟨j + 1, by go_num, hlt, HD2, HB9.out⟩
        case measure => simp [intOf]; omega
     ·obtain rfl : j = exts.length := by omega
      have HDD : Hid (dupX exts p = false) := hid (by rw [HD.out, List.drop_length]; rfl)
      clear HD hj hlt
      go_wp2_with fail
      have JD : Hid (∀ u, Below wo.heap.size wo u -> Calls Tryz.prog 235 #[.slice (some ⟨ga, 0, none⟩) nn cap] u fun e w' => e = .returned (.string (B (joinD (p :: taken)))) /\ Below u.heap.size u w') := hid (fun u h => by
       have hc := refJoined_l (p :: taken) (some ⟨ga, 0, none⟩) cap u (by rw [HNN.out]; omega) (by rw [joinD_flat, List.length_append]; have := HFL.out; have := HNN.out; simp at this; omega) (HHA.out.below h)
       rw [HNN.out] at hc
       exact hc)
      have HBR := hid hb
      generalize hjj : joinD (p :: taken) = jj at JD
      have HJJ := hid hjj
      clear hjj hb
      have hsz : base <= wo.heap.size := Nat.le_trans hbase hsw
      go_region_law (first
       | (go_simp; go_at_call 235; (with_reducible refine (JD.out _ (by first | exact HBR.out | exact HBR.out.drew)).mono ?_); rintro e w10 ⟨rfl, hb10⟩; have HB10 : Hid (Below wo.heap.size wo w10) := hid (HBR.out.drew.trans (hb10.mono HBR.out.drew.size)); have hT10 := hTT.out.1.below HB10.out hto; have hE10 := (ownsRow_below hTT.out.2 HB10.out).alloc (.cells #[.string (B jj)] 9); have x5 := (row_of hT10 5 _ rfl).1; have n10 := World.new_ne w10 _ x5; have lt10 : tb < w10.heap.size := World.block_lt_of_cell? _ _ x5; have HT10 := hid hT10; have hs10 := HB10.out.size; clear hb10 hT10)
       | (refine step_append_texts rfl (.tmp 59) (.tmp 62) 190 rfl base 9 i0 (.string ⟨#[]⟩) 16 Tryz.underlying190 hi hz0 hz1 hz2 rfl (.slice ea exts.length ecap) exts.length (exts.map strV) (by simp [Act.eval]) (by exact hE10) (some ⟨w10.heap.size, 0, none⟩) 1 1 [.string (B jj)] (by simp [Act.eval]) (by simp) (by exact at_one _ _ _) (fun h => nomatch h) (fun u hu => by rw [List.mem_singleton.1 hu]; rfl) (by unfold maxLen; omega) (by omega) (by simp; omega) ?_
          intro v11 w11 hown11 hg11 ho11
          have hx11 : w10.grownBy w11 (Value.slice ea exts.length ecap).ownBlock := grown_trans (World.grownBy_alloc w10 _ _) hg11
          have nt : some tb ≠ (Value.slice ea exts.length ecap).ownBlock := fun e => (HEV.out tb e.symm).2.2 rfl
          have hT11 := HT10.out.grown hx11 nt (by omega)
          have x11 := (row_of hT11 5 _ rfl).1
          have f11 := (row_of hT11 5 _ rfl).2
          have hl11 : (exts ++ [jj]).length = exts.length + 1 := by simp
          have hown12 : w11.ownsRow base 9 1 v11 (exts ++ [jj]).length ((exts ++ [jj]).map strV) := by rw [hl11, List.map_append]; exact hown11
          have ho12 : v11.ownBlock = (Value.slice ea exts.length ecap).ownBlock \/ ∃ g, w.heap.size <= g /\ v11.ownBlock = some g := ho11.imp id (fun h => ⟨_, by simp; omega, h⟩)
          have HY := hid (And.intro hx11 (And.intro hT11 (And.intro hown12 ho12)))
          obtain ⟨g11, c11, rfl, _, _, _⟩ := ownsRow_at hown11
          clear hx11 nt hT11 hl11 hown12 ho12 hown11 hg11 ho11 hE10 x5))
      all_goals go_wp2_with fail
      all_goals
       go_ret
       obtain ⟨hown, hv, hR, hg⟩ := HQ.out
       obtain ⟨hx11, hT11, hown12, ho12⟩ := HY.out
       have hgs := grownBy_set w11 tb 5 (.slice g11 (exts.length + 1) c11)
       have nb : some b ≠ (Value.slice ea exts.length ecap).ownBlock := fun e => (HEV.out b e.symm).2.1 rfl
       have nk : some k ≠ (Value.slice ea exts.length ecap).ownBlock := fun e => (HEV.out k e.symm).1 rfl
       have hv12 := ((hv.below HB10.out).grown hx11 nk).grown hgs (by simpa using hkt)
       have hR12 := ((hR.below HB10.out hbr).grown hx11 nb (by have := HB10.out.size; omega)).grown hgs (by simpa using hbt) (by have := HB10.out.size; have := hx11.size; omega)
       have hF := ((((hg.mono (cs := b :: tb :: (Value.slice ea exts.length ecap).ownBlock.toList) (fun c hc _ => by simp at hc; simp [hc])).trans (FrameX.of_below HB10.out _)).step hx11 (fun g h => .inr (by rw [h]; simp))).step hgs (fun g h => .inr (by cases h; simp)))
       have hown13 := hown12.kept hgs (by
        rcases ho12 with h | ⟨g, hge, h⟩
        ·rw [h]
         cases hob : (Value.slice ea exts.length ecap).ownBlock with
         | none => exact .inl rfl
         | some g => exact .inr (fun e => (HEV.out g hob).2.2 (by cases e; rfl))
        ·rw [h]
         exact .inr (fun e => by cases e; omega))
       unfold RExtPost
       rw [HE2.out]
       refine .inr ⟨HDD.out, ?_, _, _, hv12, hR12, hT11.set (j := 5) (by simp) _, by rw [HJJ.out]; exact hown13, ho12, hF⟩
       have hnz := HNN.out
       simp at hnz
       cases taken with
       | nil => simp at hnz; subst hnz; rfl
       | cons y z =>
        have : decide (1 < (nn : Int)) = true := decide_eq_true (by simp at hnz; omega)
        exact ret_bool (by first | (rw [this]; rfl) | (simp; simp at hnz; omega))
end Go.Proofs.YtdhmpakhdhdebaaGreatDoor
