/-
  The reference's Tag: the plain part, and what its reader holds. By an AI agent.
-/
import Derived.Test.YtdhmpakhdhdebaaGreatDoorZRefExtn
import Derived.Test.YtdhmpakhdhdebaaGreatDoorZTagCells
namespace Go.Proofs.YtdhmpakhdhdebaaGreatDoor
open Go.Lib (hid)
open Go.RowKit
set_option maxRecDepth 100000
theorem lowB_x (c : UInt8) : lowB c = 120 ↔ (c = 120 \/ c = 88) := by
 unfold lowB
 rw [<- UInt8.toNat_inj, <- UInt8.toNat_inj, <- UInt8.toNat_inj]
 have := c.toNat_lt
 split
 ·rw [UInt8.toNat_add]
  simp
  omega
 ·simp
  omega
theorem lowL_x (p : List UInt8) : (lowL p == [120]) = privB p := by
 rw [Bool.eq_iff_iff]
 unfold privB
 match p with
 | [] => simp [lowL]
 | [c] => simp [lowL, lowB_x]
 | c :: d :: r => simp [lowL]
theorem privB_len {p : List UInt8} (h : privB p = true) : p.length = 1 := by
 unfold privB at h
 simp at h
 rcases h with h | h <;> simp [h]
theorem madeB_short {p : List UInt8} {lo hi : Nat} {pu : Bool} (h : p.length < lo) : madeB p lo hi pu = false := by
 cases hm : madeB p lo hi pu with
 | false => rfl
 | true => have := (made_len hm).1; omega
theorem priv_no {p : List UInt8} (h : privB p = true) : madeB p 4 4 true = false /\ regionB p = false /\ variantB p = false /\ (madeB p 1 1 false && !privB p) = false := by
 have hl := privB_len h
 refine ⟨madeB_short (by omega), ?_, ?_, by rw [h]; simp⟩
 ·unfold regionB
  rw [madeB_short (by omega)]
  have : (p.length == 3) = false := by rw [hl]; rfl
  rw [this]
  rfl
 ·unfold variantB
  rw [madeB_short (by omega), madeB_short (by omega)]
  rfl
theorem restF_priv {ps : List (List UInt8)} (h : seesPriv ps = true) : restF [] [] ps = some (noTag, ps) := by
 rcases ps with _ | ⟨p, r⟩
 ·cases h
 have hp : privB p = true := h
 obtain ⟨h1, h2, h3, h4⟩ := priv_no hp
 have e1 : oneF (fun p => madeB p 4 4 true) (p :: r) = ([], p :: r) := oneF_no h1
 have e2 : oneF regionB (p :: r) = ([], p :: r) := oneF_no h2
 have e3 : varsF [] (p :: r) = some ([], p :: r) := varsF_no h3
 have e4 : extsF ([].map lowL) (p :: r) = some ([], p :: r) := extsF_no h4
 unfold restF
 simp only [e1, e2, e3, e4]
 rfl
theorem langF_ne {ps : List (List UInt8)} {l e : List UInt8} {r : List (List UInt8)} (h : langF ps = some (l, e, r)) : l ≠ [] := by
 rcases ps with _ | ⟨p, q⟩
 ·cases h
 ·cases hm : madeB p 2 8 true with
  | false => rw [langF, if_neg (by rw [hm]; simp)] at h; cases h
  | true =>
   rw [langF_yes hm] at h
   have hl := (made_len hm).1
   split at h <;> (cases h; intro e; rw [e] at hl; simp at hl)
theorem variantB_len {p : List UInt8} (h : variantB p = true) : 4 <= p.length := by
 unfold variantB at h
 rw [Bool.or_eq_true, Bool.and_eq_true] at h
 rcases h with h | ⟨h, _⟩
 ·have := (made_len h).1; omega
 ·exact (made_len h).1
def SeenOK (low exts : List (List UInt8)) : Prop := ∀ p : List UInt8, p.length = 1 -> low.contains (lowL p) = dupX exts p
theorem SeenOK.start {vars : List (List UInt8)} (h : ∀ v ∈ vars, 4 <= v.length) : SeenOK (vars.map lowL) [] := by
 intro p hp
 have hd : dupX [] p = false := rfl
 rw [hd, <- Bool.not_eq_true, List.contains_iff_mem, List.mem_map]
 rintro ⟨v, hv, he⟩
 have h1 := h v hv
 have h2 := congrArg List.length he
 simp only [lowL, List.length_map] at h2
 omega
theorem SeenOK.step {low exts : List (List UInt8)} (h : SeenOK low exts) {p : List UInt8} (hp : p.length = 1) (m : List (List UInt8)) : SeenOK (low ++ [lowL p]) (exts ++ [joinD (p :: m)]) := by
 intro q hq
 have e : (joinD (p :: m)).take 1 = p := by rw [joinD_flat, <- hp, List.take_left]
 have h1 : dupX (exts ++ [joinD (p :: m)]) q = (dupX exts q || (lowL p == lowL q)) := by
  unfold dupX
  rw [List.any_append]
  simp [e]
 rw [h1, <- h q hq, Bool.eq_iff_iff, List.contains_iff_mem, Bool.or_eq_true, List.contains_iff_mem, List.mem_append, List.mem_singleton, beq_iff_eq]
 exact or_congr Iff.rfl eq_comm
def finalF : Option (TagL × List (List UInt8)) -> Option TagL
 | none => none
 | some (t, []) => some t
 | some (t, p :: r) => if privB p = true then (if privR r = true then some { t with priv := joinD (p :: r) } else none) else none
theorem finalF_cons (t : TagL) (p : List UInt8) (r : List (List UInt8)) : finalF (some (t, p :: r)) = if privB p = true then (if privR r = true then some { t with priv := joinD (p :: r) } else none) else none := rfl
theorem tagTail_all : ∀ (r : List (List UInt8)), (r.all fun q => madeB q 1 8 false) = true -> tagTail 1 r = (r, [])
 | [], _ => rfl
 | p :: r, h => by
  rw [List.all_cons, Bool.and_eq_true] at h
  rw [tagTail_yes h.1, tagTail_all r h.2]
theorem tagTail_part : ∀ (r : List (List UInt8)), (r.all fun q => madeB q 1 8 false) = false -> (tagTail 1 r).2 ≠ []
 | [], h => by cases h
 | p :: r, h => by
  cases hm : madeB p 1 8 false with
  | false => rw [tagTail_no hm]; simp
  | true =>
   rw [List.all_cons, hm, Bool.true_and] at h
   rw [tagTail_yes hm]
   exact tagTail_part r h
theorem tagP_final (ps : List (List UInt8)) : tagP ps = finalF (frontF ps) := by
 unfold tagP
 rcases frontF ps with _ | ⟨t, r⟩
 ·rfl
 ·rcases r with _ | ⟨p, r⟩
  ·rfl
  ·simp only [finalF]
   split
   ·cases ha : r.all fun q => madeB q 1 8 false with
    | true =>
     rw [tagTail_all r ha]
     rcases r with _ | ⟨q, r⟩
     ·simp [privR]
     ·have hp : privR (q :: r) = true := by
       unfold privR
       rw [ha]
       rfl
      simp [hp]
    | false =>
     have h2 := tagTail_part r ha
     have hp : privR r = false := by unfold privR; rw [ha, Bool.and_false]
     rw [hp]
     simp [h2]
   ·rfl
theorem ext3_suf : ∀ (n : Nat) (ps : List (List UInt8)), (ext3 n ps).2 <:+ ps
 | 0, ps => List.suffix_refl _
 | _ + 1, [] => List.suffix_refl _
 | n + 1, p :: r => by
  have ih := ext3_suf n r
  cases h : madeB p 3 3 true with
  | true => rw [ext3, if_pos h]; exact ih.trans (List.suffix_cons _ _)
  | false => rw [ext3, if_neg (by rw [h]; simp)]; exact List.suffix_refl _
theorem langF_suf {ps : List (List UInt8)} {l e : List UInt8} {r : List (List UInt8)} (h : langF ps = some (l, e, r)) : r <:+ ps := by
 rcases ps with _ | ⟨p, q⟩
 ·cases h
 ·cases hm : madeB p 2 8 true with
  | false => rw [langF, if_neg (by rw [hm]; simp)] at h; cases h
  | true =>
   rw [langF_yes hm] at h
   split at h
   ·cases h; exact List.suffix_cons _ _
   ·cases h; exact (ext3_suf 3 q).trans (List.suffix_cons _ _)
theorem oneF_suf (f : List UInt8 -> Bool) (ps : List (List UInt8)) : (oneF f ps).2 <:+ ps := by
 rcases ps with _ | ⟨p, r⟩
 ·exact List.suffix_refl _
 ·cases h : f p with
  | true => rw [oneF_yes h]; exact List.suffix_cons _ _
  | false => rw [oneF_no (show seesF f (p :: r) = false from h)]; exact List.suffix_refl _
theorem tagTail_suf (lo : Nat) : ∀ ps, (tagTail lo ps).2 <:+ ps
 | [] => List.suffix_refl _
 | p :: r => by
  cases hm : madeB p lo 8 false with
  | true => rw [tagTail_yes hm]; exact (tagTail_suf lo r).trans (List.suffix_cons _ _)
  | false => rw [tagTail_no hm]; exact List.suffix_refl _
theorem joinD_append_le : ∀ (a b : List (List UInt8)), (joinD b).length <= (joinD (a ++ b)).length
 | [], b => Nat.le_refl _
 | p :: a, b => by
  have h := joinD_append_le a b
  rw [List.cons_append, joinD_flat, List.length_append]
  rcases hq : a ++ b with _ | ⟨q, r⟩
  ·rw [hq] at h
   have e0 : (joinD ([] : List (List UInt8))).length = 0 := rfl
   omega
  ·rw [hq, joinD_flat] at h
   have e : flatH (q :: r) = 45 :: (q ++ flatH r) := by simp [flatH]
   rw [e, List.length_cons]
   omega
theorem joinD_suf {r ps : List (List UInt8)} (h : r <:+ ps) : (joinD r).length <= (joinD ps).length := by
 obtain ⟨a, rfl⟩ := h
 exact joinD_append_le a r
structure RC (w : World) (b tb k : Nat) : Prop where
 kb : k ≠ b
 kt : k ≠ tb
 tt : w.heap.size < tb
 bt : tb < b
 kl : k < b
structure RSt (w wx : World) (b tb k : Nat) (lv : Value) (left : List (List UInt8)) (l x sc rg : List UInt8) (vv ev : Value) (vars exts : List (List UInt8)) : Prop where
 view : ViewAt wx k lv left
 rd : RowAt wx b [lv]
 tg : RowAt wx tb [.string (B l), .string (B x), .string (B sc), .string (B rg), vv, ev, .string ⟨#[]⟩]
 ov : wx.ownsRow (b + 1) 9 1 vv vars.length (vars.map strV)
 oe : wx.ownsRow (b + 1) 9 1 ev exts.length (exts.map strV)
 ap : Apart vv ev
 zr : RowAt wx w.heap.size zeros7
 bl : Below w.heap.size w wx
section
variable {w wx wy : World} {b tb k : Nat} {lv : Value} {left : List (List UInt8)} {l x sc rg : List UInt8} {vv ev : Value} {vars exts : List (List UInt8)}
theorem RSt.lb (h : RSt w wx b tb k lv left l x sc rg vv ev vars exts) : b < wx.heap.size := World.block_lt_of_cell? _ _ (row_of h.rd 0 _ rfl).1
theorem RSt.lt (h : RSt w wx b tb k lv left l x sc rg vv ev vars exts) : tb < wx.heap.size := World.block_lt_of_cell? _ _ (row_of h.tg 0 _ rfl).1
theorem RSt.lz (h : RSt w wx b tb k lv left l x sc rg vv ev vars exts) : w.heap.size < wx.heap.size := World.block_lt_of_cell? _ _ (row_of h.zr 0 _ rfl).1
theorem RSt.below (h : RSt w wx b tb k lv left l x sc rg vv ev vars exts) (hb : Below wx.heap.size wx wy) : RSt w wy b tb k lv left l x sc rg vv ev vars exts :=
 ⟨h.view.below hb, h.rd.below hb h.lb, h.tg.below hb h.lt, ownsRow_below h.ov hb, ownsRow_below h.oe hb, h.ap, h.zr.below hb h.lz, h.bl.trans (hb.mono h.bl.size)⟩
theorem RSt.next (C : RC w b tb k) {lv' : Value} {left' : List (List UInt8)} (h : RSt w wx b tb k lv left l x sc rg vv ev vars exts) (hv : ViewAt wy k lv' left') (hr : RowAt wy b [lv']) (hg : wx.grownBy wy (some b)) : RSt w wy b tb k lv' left' l x sc rg vv ev vars exts :=
 ⟨hv, hr, h.tg.grown hg (by have := C.bt; simp; omega) h.lt, own_kept h.ov hg (Nat.lt_succ_self _), own_kept h.oe hg (Nat.lt_succ_self _), h.ap, h.zr.grown hg (by have := C.bt; have := C.tt; simp; omega) h.lz,
  h.bl.grown hg h.bl.size (fun j hj => by cases hj; have := C.bt; have := C.tt; omega)⟩
theorem RSt.script (C : RC w b tb k) (h : RSt w wx b tb k lv left l x sc rg vv ev vars exts) (p : List UInt8) : RSt w (wx.setCell ⟨tb, 2, none⟩ (.string (B p))) b tb k lv left l x p rg vv ev vars exts := by
 have hg := grownBy_set wx tb 2 (.string (B p))
 have h1 := C.bt
 have h2 := C.tt
 exact ⟨h.view.grown hg (by simpa using C.kt), h.rd.grown hg (by simp; omega) h.lb, h.tg.set (j := 2) (by simp) _, own_kept h.ov hg (by omega), own_kept h.oe hg (by omega), h.ap, h.zr.grown hg (by simp; omega) h.lz, h.bl.grown hg h.bl.size (fun j hj => by cases hj; omega)⟩
theorem RSt.region (C : RC w b tb k) (h : RSt w wx b tb k lv left l x sc rg vv ev vars exts) (p : List UInt8) : RSt w (wx.setCell ⟨tb, 3, none⟩ (.string (B p))) b tb k lv left l x sc p vv ev vars exts := by
 have hg := grownBy_set wx tb 3 (.string (B p))
 have h1 := C.bt
 have h2 := C.tt
 exact ⟨h.view.grown hg (by simpa using C.kt), h.rd.grown hg (by simp; omega) h.lb, h.tg.set (j := 3) (by simp) _, own_kept h.ov hg (by omega), own_kept h.oe hg (by omega), h.ap, h.zr.grown hg (by simp; omega) h.lz, h.bl.grown hg h.bl.size (fun j hj => by cases hj; omega)⟩
theorem RSt.frame0 (C : RC w b tb k) (h : RSt w wx b tb k lv left l x sc rg vv ev vars exts) (hg : FrameX wx wy [b, tb]) : RowAt wy w.heap.size zeros7 /\ Below w.heap.size w wy := by
 have h1 := C.bt
 have h2 := C.tt
 exact ⟨hg.row h.zr h.lz (by simp; omega), FrameX.below h.bl hg h.bl.size (fun c hc => by simp at hc; omega)⟩
theorem RSt.lang (C : RC w b tb k) {lv' : Value} {left' : List (List UInt8)} {l' x' : List UInt8} (h : RSt w wx b tb k lv left l x sc rg vv ev vars exts) (hg : FrameX wx wy [b, tb]) (hv : ViewAt wy k lv' left') (hr : RowAt wy b [lv'])
  (ht : RowAt wy tb [.string (B l'), .string (B x'), .string (B sc), .string (B rg), vv, ev, .string ⟨#[]⟩]) : RSt w wy b tb k lv' left' l' x' sc rg vv ev vars exts := by
 have h1 := C.bt
 have h2 := C.tt
 obtain ⟨hz, hb⟩ := h.frame0 C hg
 exact ⟨hv, hr, ht, hg.own h.ov (fun g hgx => by have := (h.ov.lt g hgx).1; simp; omega), hg.own h.oe (fun g hgx => by have := (h.oe.lt g hgx).1; simp; omega), h.ap, hz, hb⟩
theorem RSt.tgV (C : RC w b tb k) (h : RSt w wx b tb k lv left l x sc rg vv ev vars exts) (hg : wx.grownBy wy vv.ownBlock) : RowAt wy tb [.string (B l), .string (B x), .string (B sc), .string (B rg), vv, ev, .string ⟨#[]⟩] :=
 h.tg.grown hg (fun e => by have := (h.ov.lt tb e.symm).1; have := C.bt; omega) h.lt
theorem RSt.appV (C : RC w b tb k) {v9 : Value} {p : List UInt8} {n : Nat} (h : RSt w wx b tb k lv left l x sc rg vv ev vars exts) (hg : wx.grownBy wy vv.ownBlock) (ho : wy.ownsRow (b + 1) 9 1 v9 (vars ++ [p]).length ((vars ++ [p]).map strV))
  (hb : v9.ownBlock = vv.ownBlock \/ v9.ownBlock = some n) (hn : wx.heap.size <= n) : RSt w (wy.setCell ⟨tb, 4, none⟩ v9) b tb k lv left l x sc rg v9 ev (vars ++ [p]) exts := by
 have h1 := C.bt
 have h2 := C.tt
 have h3 := C.kl
 have hs := grownBy_set wy tb 4 v9
 have lt := h.ov.lt
 have nb : some b ≠ vv.ownBlock := fun e => by have := (lt b e.symm).1; omega
 have nk : some k ≠ vv.ownBlock := fun e => by have := (lt k e.symm).1; omega
 have nz : some w.heap.size ≠ vv.ownBlock := fun e => by have := (lt _ e.symm).1; omega
 exact ⟨(h.view.grown hg nk).grown hs (by simpa using C.kt), (h.rd.grown hg nb h.lb).grown hs (by simp; omega) (by have := hg.size; have := h.lb; omega), (h.tgV C hg).set (j := 4) (by simp) _, own_kept ho hs (by omega),
  own_kept (h.oe.kept hg h.ap.symm.ne) hs (by omega), h.ap.grows hb (fun g hg => by have := (h.oe.lt g hg).2; omega), (h.zr.grown hg nz h.lz).grown hs (by simp; omega) (by have := hg.size; have := h.lz; omega),
  (h.bl.grown hg h.bl.size (fun j hj => by have := (lt j hj).1; omega)).grown hs (by have := h.bl.size; have := hg.size; omega) (fun j hj => by cases hj; omega)⟩
theorem RSt.frameE (C : RC w b tb k) (h : RSt w wx b tb k lv left l x sc rg vv ev vars exts) (hg : FrameX wx wy (b :: tb :: ev.ownBlock.toList)) : RowAt wy w.heap.size zeros7 /\ Below w.heap.size w wy := by
 have h1 := C.bt
 have h2 := C.tt
 have hm : ∀ c, c ∈ b :: tb :: ev.ownBlock.toList -> w.heap.size < c := fun c hc => by
  rcases List.mem_cons.1 hc with rfl | hc
  ·omega
  ·rcases List.mem_cons.1 hc with rfl | hc
   ·exact h2
   ·have := (h.oe.lt c (by simpa using hc)).1; omega
 exact ⟨hg.row h.zr h.lz (fun hc => Nat.lt_irrefl _ (hm _ hc)), FrameX.below h.bl hg h.bl.size (fun c hc => Nat.le_of_lt (hm c hc))⟩
theorem RSt.ext (C : RC w b tb k) {lv' ev' : Value} {left' : List (List UInt8)} {p : List UInt8} (h : RSt w wx b tb k lv left l x sc rg vv ev vars exts) (hg : FrameX wx wy (b :: tb :: ev.ownBlock.toList)) (hv : ViewAt wy k lv' left') (hr : RowAt wy b [lv'])
  (ht : RowAt wy tb [.string (B l), .string (B x), .string (B sc), .string (B rg), vv, ev', .string ⟨#[]⟩]) (ho : wy.ownsRow (b + 1) 9 1 ev' (exts ++ [p]).length ((exts ++ [p]).map strV))
  (hb : ev'.ownBlock = ev.ownBlock \/ ∃ g, wx.heap.size <= g /\ ev'.ownBlock = some g) : RSt w wy b tb k lv' left' l x sc rg vv ev' vars (exts ++ [p]) := by
 have h1 := C.bt
 have h2 := C.tt
 obtain ⟨hz, hbl⟩ := h.frameE C hg
 refine ⟨hv, hr, ht, hg.own h.ov (fun g hgx => ?_), ho, ?_, hz, hbl⟩
 ·have := (h.ov.lt g hgx).1
  intro hm
  rcases List.mem_cons.1 hm with rfl | hm
  ·omega
  ·rcases List.mem_cons.1 hm with rfl | hm
   ·omega
   ·exact h.ap g hgx (by simpa using hm)
 ·intro g hgx he
  rcases hb with e | ⟨n, hn, e⟩
  ·exact h.ap g hgx (e ▸ he)
  ·rw [e] at he
   cases he
   have := (h.ov.lt _ hgx).2
   omega
theorem RSt.frameP (C : RC w b tb k) (h : RSt w wx b tb k lv left l x sc rg vv ev vars exts) (hg : FrameX wx wy [tb]) : RowAt wy w.heap.size zeros7 /\ Below w.heap.size w wy /\ wy.ownsRow (b + 1) 9 1 vv vars.length (vars.map strV) /\ wy.ownsRow (b + 1) 9 1 ev exts.length (exts.map strV) := by
 have h1 := C.bt
 have h2 := C.tt
 exact ⟨hg.row h.zr h.lz (by simp; omega), FrameX.below h.bl hg h.bl.size (fun c hc => by simp at hc; omega), hg.own h.ov (fun g hgx => by have := (h.ov.lt g hgx).1; simp; omega), hg.own h.oe (fun g hgx => by have := (h.oe.lt g hgx).1; simp; omega)⟩
end
end Go.Proofs.YtdhmpakhdhdebaaGreatDoor
namespace Go.Proofs.YtdhmpakhdhdebaaGreatDoor
open Go.Lib (hid)
open Go.RowKit
set_option maxRecDepth 100000
theorem more44 (b k : Nat) (ps : List (List UInt8)) (lv : Value) (w : World) (hv : ViewAt w k lv ps) (hR : RowAt w b [lv]) (hp : ∀ p ∈ ps, p.length <= 140737488351232) :
  Calls Tryz.prog 213 #[.pointer (some ⟨b, 0, none⟩), .int .i64 4, .int .i64 4, .bool false] w fun e w' => e = .returned (.bool (seesM (moreB 4 4 false) ps)) /\ w' = w := more_l b k ps lv 4 4 false w hv hR hp (by omega) (by omega)
theorem more22 (b k : Nat) (ps : List (List UInt8)) (lv : Value) (w : World) (hv : ViewAt w k lv ps) (hR : RowAt w b [lv]) (hp : ∀ p ∈ ps, p.length <= 140737488351232) :
  Calls Tryz.prog 213 #[.pointer (some ⟨b, 0, none⟩), .int .i64 2, .int .i64 2, .bool false] w fun e w' => e = .returned (.bool (seesM (moreB 2 2 false) ps)) /\ w' = w := more_l b k ps lv 2 2 false w hv hR hp (by omega) (by omega)
theorem more33t (b k : Nat) (ps : List (List UInt8)) (lv : Value) (w : World) (hv : ViewAt w k lv ps) (hR : RowAt w b [lv]) (hp : ∀ p ∈ ps, p.length <= 140737488351232) :
  Calls Tryz.prog 213 #[.pointer (some ⟨b, 0, none⟩), .int .i64 3, .int .i64 3, .bool true] w fun e w' => e = .returned (.bool (seesM (moreB 3 3 true) ps)) /\ w' = w := more_l b k ps lv 3 3 true w hv hR hp (by omega) (by omega)
theorem both11 (p : List UInt8) (w : World) (hp : p.length <= 140737488351232) :
  Calls Tryz.prog 216 #[.string (B p), .int .i64 1, .int .i64 1] w fun e w' => e = .returned (.bool (madeB p 1 1 false)) /\ w' = w := both_l p 1 1 w hp (by omega) (by omega)
theorem regionB_more (p : List UInt8) : regionB p = (moreB 2 2 false p || moreB 3 3 true p) := by
 rw [moreB_made]
 unfold regionB moreB
 have : (p.length == 3) = (decide (3 <= p.length) && decide (p.length <= 3)) := by rw [Bool.eq_iff_iff]; simp; omega
 rw [this]
 rfl
theorem refParts_k (l x : List UInt8) (xs : List (List UInt8)) (h : partsOf l = x :: xs) (w : World) (hl : l.length <= 16777216) :
  Calls Tryz.prog 211 #[.string (B l)] w fun e w' => ∃ k o cap, e = .returned (.slice (some ⟨k, o, none⟩) (xs.length + 1) cap) /\ ViewAt w' k (.slice (some ⟨k, o, none⟩) (xs.length + 1) cap) (x :: xs) /\ w.heap.size <= k /\ k < w'.heap.size /\ Below w.heap.size w w' := by
 have h0 := refParts_l l w hl
 rw [h] at h0
 refine h0.mono ?_
 rintro e w' ⟨v, rfl, hown, hb⟩
 have hv := View.of_row hown (by simp)
 obtain ⟨b, o, cap, he, hcap, hc⟩ := hv
 subst he
 have hlt := hown.lt b rfl
 exact ⟨b, o, cap, rfl, ⟨o, cap, rfl, hcap, hc⟩, hlt.1, hlt.2, hb⟩
def RA (w wx : World) (b tb k : Nat) (ps : List (List UInt8)) : Prop :=
 ∃ lv l e r, frontF ps = restF l e r /\ (l = [] -> e = [] /\ seesPriv r = true) /\ r <:+ ps /\ RSt w wx b tb k lv r l e [] [] (.slice none 0 0) (.slice none 0 0) [] []
set_option maxHeartbeats 6400000 in
theorem refTag_l (s : List UInt8) (w : World) (hs : s.length <= 1400000) :
  Calls Tryz.prog 166 #[.string (B s)] w fun e w' => TagPost w w' e (tagF s) := by
 obtain ⟨x, xs, hx⟩ := List.exists_cons_of_ne_nil (partsOf_ne s)
 have PAR := hid (fun (w : World) => refParts_k s x xs hx w (by omega))
 have HT : Hid (tagF s = finalF (frontF (x :: xs))) := hid (by unfold tagF; rw [hx, tagP_final])
 have HPS : Hid (∀ p ∈ x :: xs, p.length <= 1400000) := hid (fun p hp => Nat.le_trans (partsOf_mem_len s p (by rw [hx]; exact hp)) hs)
 have HPL : Hid ((x :: xs).length <= 1400001) := hid (by rw [<- hx]; exact Nat.le_trans (partsOf_length_le s) (by omega))
 have HJS : Hid (joinD (x :: xs) = s) := hid (by rw [<- hx, joinD_partsOf])
 have NEXT := hid (fun b k p ps lv w => rnext_l b k p ps lv w)
 have RLOW := hid refLower_l
 clear hx
 go_enter Tryz.func166, Tryz.ntmps166
 go_upto_region 3 with (go_at_call 211; (with_reducible refine (PAR.out _).mono ?_); rintro e w2 ⟨k, o, cap, rfl, hv, hk1, hk2, hb2⟩; have HX2 := hid (And.intro hv (And.intro hk1 (And.intro hk2 hb2))); clear hv hk1 hk2 hb2)
 obtain ⟨hv, hk1, hk2, hb2⟩ := HX2.out
 generalize hW1 : w.alloc (.cells #[.string ⟨#[]⟩, .string ⟨#[]⟩, .string ⟨#[]⟩, .string ⟨#[]⟩, .slice none 0 0, .slice none 0 0, .string ⟨#[]⟩] 192) = W1 at hb2 hk1
 have z1 : RowAt W1 w.heap.size zeros7 := rowAt_of_heap (t := 192) (by rw [<- hW1]; exact heap_alloc_last _ _)
 have s1 : W1.heap.size = w.heap.size + 1 := by rw [<- hW1, World.size_alloc]
 have hb01 : Below w.heap.size w W1 := by rw [<- hW1]; exact (Below.refl _ _).alloc (Nat.le_refl _) _
 generalize hW2 : W1.alloc (.cells #[.string ⟨#[]⟩, .string ⟨#[]⟩, .string ⟨#[]⟩, .string ⟨#[]⟩, .slice none 0 0, .slice none 0 0, .string ⟨#[]⟩] 192) = W2 at hb2 hk1
 have t2 : RowAt W2 W1.heap.size zeros7 := rowAt_of_heap (t := 192) (by rw [<- hW2]; exact heap_alloc_last _ _)
 have s2 : W2.heap.size = w.heap.size + 1 + 1 := by rw [<- hW2, World.size_alloc, s1]
 have hb12 : Below W1.heap.size W1 W2 := by rw [<- hW2]; exact (Below.refl _ _).alloc (Nat.le_refl _) _
 have hb02 : Below w.heap.size w W2 := hb01.trans (hb12.mono hb01.size)
 generalize hW3 : w2.alloc (.cells #[.slice (some ⟨k, o, none⟩) (xs.length + 1) cap] 258) = W3
 have r3 : RowAt W3 w2.heap.size [.slice (some ⟨k, o, none⟩) (xs.length + 1) cap] := rowAt_of_heap (t := 258) (by rw [<- hW3]; exact heap_alloc_last _ _)
 have hb23 : Below w2.heap.size w2 W3 := by rw [<- hW3]; exact (Below.refl _ _).alloc (Nat.le_refl _) _
 have hss : W2.heap.size <= w2.heap.size := hb2.size
 rw [s1] at t2
 have RS0 : RSt w W3 w2.heap.size (w.heap.size + 1) k (.slice (some ⟨k, o, none⟩) (xs.length + 1) cap) (x :: xs) [] [] [] [] (.slice none 0 0) (.slice none 0 0) [] [] :=
  ⟨hv.below hb23, r3, (t2.below hb2 (by omega)).below hb23 (by omega), World.ownsRow_nil _ _ _ _, World.ownsRow_nil _ _ _ _, Apart.nil_left _, ((z1.below hb12 (by omega)).below hb2 (by omega)).below hb23 (by omega), (hb02.trans (hb2.mono hb02.size)).trans (hb23.mono (hb02.trans (hb2.mono hb02.size)).size)⟩
 have C0 : RC w w2.heap.size (w.heap.size + 1) k := ⟨by omega, by omega, by omega, by omega, by omega⟩
 clear hW1 hW2 hW3 z1 t2 r3 hb01 hb12 hb02 hb23 hss hb2 hv HX2 s1 s2 hk1 hk2
 generalize w.heap.size + 1 = tb at *
 generalize w2.heap.size = b at *
 have HRS := hid RS0
 have HC := hid C0
 have y0 := (row_of RS0.rd 0 _ rfl).1
 obtain ⟨o1, cap1, he1, hcc, hd0, _⟩ := RS0.view.cons
 injection he1 with h1 _ h3
 injection h1 with h1
 injection h1 with _ h2
 subst h2 h3
 have LX := hid (fun u => RLOW.out x u (by have := HPS.out x (by simp); unfold maxLen; omega))
 have hlx : Hid ((lowL x == [120]) = privB x) := hid (lowL_x x)
 clear RS0 C0
 go_upto_if 22 with (go_at_call 167; (with_reducible refine (LX.out _).mono ?_); rintro e w3 ⟨rfl, hb3⟩; have HB3 := hid hb3; clear hb3)
 go_cut [] (fun wx => RA w wx b tb k (x :: xs))
 case first =>
  rw [hlx.out]
  cases hp : privB x with
  | true =>
   have HF : Hid (frontF (x :: xs) = restF [] [] (x :: xs)) := hid (by
    have hsp : seesPriv (x :: xs) = true := hp
    rw [restF_priv hsp]; unfold frontF; rw [if_pos hsp])
   have HSP : Hid (seesPriv (x :: xs) = true) := hid hp
   clear hp
   go_wp2_with fail
   go_meet
   case rel => exact ⟨_, [], [], x :: xs, HF.out, fun _ => ⟨rfl, HSP.out⟩, List.suffix_refl _, HRS.out.below HB3.out⟩
  | false =>
   have hsp : ¬ seesPriv (x :: xs) = true := by
    have h : seesPriv (x :: xs) = false := hp
    rw [h]; simp
   have hR3 := HRS.out.below HB3.out
   have LA := rlang_l b tb k (x :: xs) _ [.string (B []), .string (B []), .slice none 0 0, .slice none 0 0, .string ⟨#[]⟩] w3 hR3.view hR3.rd hR3.tg HC.out.kb HC.out.kt (by have := HC.out.bt; omega) (by
    obtain ⟨_, _, _, _, hc⟩ := hR3.view
    exact World.block_lt_of_cell? _ _ (hc 0 (by simp))) (fun p hp => Nat.le_trans (HPS.out p hp) (by omega))
   have HR3 := hid hR3
   clear hR3
   cases hl : langF (x :: xs) with
   | none =>
    rw [hl] at LA
    have HE : Hid (tagF s = none) := hid (by rw [HT.out]; unfold frontF; rw [if_neg hsp, hl]; rfl)
    have LA' := hid LA
    clear LA hl hp hsp
    go_wp2_with (go_at_call 212; (with_reducible refine LA'.out.mono ?_); rintro e w4 ⟨rfl, hg4⟩; have hr4 := HR3.out.frame0 HC.out hg4; have HR4 := hid hr4; have z0 := row_of hr4.1 0 _ rfl; have z1 := row_of hr4.1 1 _ rfl; have z2 := row_of hr4.1 2 _ rfl; have z3 := row_of hr4.1 3 _ rfl; have z4 := row_of hr4.1 4 _ rfl; have z5 := row_of hr4.1 5 _ rfl; have z6 := row_of hr4.1 6 _ rfl; clear hg4 hr4)
    have P7 := put7 (show RowAt w4 w.heap.size [.string ⟨#[]⟩, .string ⟨#[]⟩, .string ⟨#[]⟩, .string ⟨#[]⟩, .slice none 0 0, .slice none 0 0, .string ⟨#[]⟩] from (HR4.out).1) (.string ⟨#[]⟩) (.string ⟨#[]⟩) (.string ⟨#[]⟩) (.string ⟨#[]⟩) (.slice none 0 0) (.slice none 0 0) (.string ⟨#[]⟩)
    have c0 := (row_of P7.1 0 _ rfl).1; have c1 := (row_of P7.1 1 _ rfl).1; have c2 := (row_of P7.1 2 _ rfl).1; have c3 := (row_of P7.1 3 _ rfl).1; have c4 := (row_of P7.1 4 _ rfl).1; have c5 := (row_of P7.1 5 _ rfl).1; have c6 := (row_of P7.1 6 _ rfl).1
    have hbe := (HR4.out).2.grown P7.2 (HR4.out).2.size (fun j hj => by cases hj; exact Nat.le_refl _)
    generalize (((((((w4.setCell ⟨w.heap.size, 0, none⟩ (.string ⟨#[]⟩)).setCell ⟨w.heap.size, 1, none⟩ (.string ⟨#[]⟩)).setCell ⟨w.heap.size, 2, none⟩ (.string ⟨#[]⟩)).setCell ⟨w.heap.size, 3, none⟩ (.string ⟨#[]⟩)).setCell ⟨w.heap.size, 4, none⟩ (.slice none 0 0)).setCell ⟨w.heap.size, 5, none⟩ (.slice none 0 0)).setCell ⟨w.heap.size, 6, none⟩ (.string ⟨#[]⟩)) = we at *
    refine bodyPost_ret (v := .tuple #[.agg (tagCells noTag none none 0 0), .int .i64 61]) (by simp [results, Tryz.results166, go_sem, c0, c1, c2, c3, c4, c5, c6, tagCells, noTag, B]) rfl ?_
    rw [HE.out]
    exact ⟨rfl, hbe⟩
   | some q =>
    obtain ⟨l, e, r⟩ := q
    rw [hl] at LA
    have HF : Hid (frontF (x :: xs) = restF l e r) := hid (by unfold frontF; rw [if_neg hsp, hl])
    have HLN : Hid (l ≠ [] /\ r <:+ x :: xs) := hid ⟨langF_ne hl, langF_suf hl⟩
    have LA' := hid LA
    clear LA hl hp hsp
    go_wp2_with (go_at_call 212; (with_reducible refine LA'.out.mono ?_); rintro e4 w4 ⟨rfl, hg4, lv4, hv4, hr4, ht4⟩; have HR4 := hid (RSt.lang HC.out HR3.out hg4 hv4 hr4 ht4); clear hg4 hv4 hr4 ht4)
    go_meet
    case rel => exact ⟨lv4, l, e, r, HF.out, fun h => absurd h HLN.out.1, HLN.out.2, HR4.out⟩
 case rest =>
  clear HRS LX hlx hd0 hcc y0
  obtain ⟨lv, l, e, r, HF0, hl0, hsu0, hRS⟩ := hcut
  have HF := hid HF0
  have SUF : Hid (∀ q, q <:+ x :: xs -> q.length <= 1400001 /\ (∀ p ∈ q, p.length <= 140737488351232) /\ (∀ p ∈ q, p.length <= 1400000) /\ (joinD q).length <= 1400000) := hid (fun q hq =>
   ⟨Nat.le_trans hq.length_le HPL.out, fun p hp => Nat.le_trans (HPS.out p (hq.subset hp)) (by omega), fun p hp => HPS.out p (hq.subset hp), Nat.le_trans (joinD_suf hq) (by rw [HJS.out]; exact hs)⟩)
  have HL0 := hid hl0
  have HSU := hid hsu0
  have HRS := hid hRS
  have M44 := hid (more44 b k r lv wc hRS.view hRS.rd (SUF.out r hsu0).2.1)
  have y0 := (row_of hRS.tg 0 _ rfl).1
  obtain ⟨wo, rfl⟩ : ∃ wo : World, wo = wc := ⟨_, rfl⟩
  have hsf0 : l = [] -> seesM (moreB 4 4 false) r = false := fun h => by
   have h2 := (hl0 h).2
   rcases r with _ | ⟨p, r⟩
   ·rfl
   ·rw [seesM_more]
    exact (priv_no h2).1
  have HSF0 := hid hsf0
  clear HF0 hl0 hsu0 hRS HPS HPL HJS hsf0
  go_upto_region 7 with fail
  go_cut [34] (fun s wx => s = .bool (seesM (moreB 4 4 false) r) /\ wx = wo)
  case first =>
   cases hle : (l == []) with
   | true =>
    have HQ := hid (HSF0.out (by simpa using hle))
    have hle2 : l.isEmpty = true := by rw [List.isEmpty_iff]; simpa using hle
    go_wp2_with fail
    go_meet
    case rel => exact ⟨by rw [HQ.out], rfl⟩
   | false =>
    have hle2 : l.isEmpty = false := by cases l with | nil => cases hle | cons c d => rfl
    cases hq : seesM (moreB 4 4 false) r <;> (
     have HQ := hid hq
     rw [hq] at M44
     clear hq
     go_wp2_with (go_at_call 213; (with_reducible refine M44.out.mono ?_); rintro e3 w3 ⟨rfl, hw3⟩; obtain rfl := hw3.symm)
     go_meet
     case rel => exact ⟨by rw [HQ.out], rfl⟩)
  case rest =>
   obtain ⟨rfl, rfl⟩ := hcut
   clear M44 HSF0 y0
   go_upto_if 34 with fail
   obtain ⟨wo, rfl⟩ : ∃ wo : World, wo = wc := ⟨_, rfl⟩
   go_cut [] (fun wx => ∃ lv', RSt w wx b tb k lv' (oneF (fun p => madeB p 4 4 true) r).2 l e (oneF (fun p => madeB p 4 4 true) r).1 [] (.slice none 0 0) (.slice none 0 0) [] [])
   case first =>
    cases hq : seesM (moreB 4 4 false) r with
    | false =>
     have HO : Hid (oneF (fun p => madeB p 4 4 true) r = ([], r)) := hid (oneF_no (by rw [<- seesM_more]; exact hq))
     clear hq
     go_wp2_with fail
     go_meet
     case rel => rw [HO.out]; exact ⟨lv, HRS.out⟩
    | true =>
     rcases r with _ | ⟨p, r⟩
     ·cases hq
     have HO : Hid (oneF (fun p => madeB p 4 4 true) (p :: r) = (p, r)) := hid (oneF_yes (by rw [seesM_more] at hq; exact hq))
     have N := hid (NEXT.out b k p r lv wo HRS.out.view HRS.out.rd HC.out.kb)
     clear hq
     go_wp2_with (go_at_call 214; (with_reducible refine N.out.mono ?_); rintro e4 w4 ⟨rfl, lv4, hv4, hR4, hg4⟩; have H4 := hid (HRS.out.next HC.out hv4 hR4 hg4); have c2 := (row_of H4.out.tg 2 _ rfl).1; have f2 := (row_of H4.out.tg 2 _ rfl).2; clear hv4 hR4 hg4)
     go_meet
     case rel => rw [HO.out]; exact ⟨lv4, H4.out.script HC.out p⟩
   case rest =>
    clear HRS
    obtain ⟨lv, hRS⟩ := hcut
    have HF1 : Hid (frontF (x :: xs) = restG l e (oneF (fun p => madeB p 4 4 true) r).1 (oneF (fun p => madeB p 4 4 true) r).2) := hid HF.out
    have hsu1 : (oneF (fun p => madeB p 4 4 true) r).2 <:+ x :: xs := (oneF_suf _ r).trans HSU.out
    have hsf1 : l = [] -> seesF regionB (oneF (fun p => madeB p 4 4 true) r).2 = false := fun h => by
     have h2 := (HL0.out h).2
     rcases r with _ | ⟨p, r⟩
     ·rfl
     ·rw [oneF_no (show seesF (fun p => madeB p 4 4 true) (p :: r) = false from (priv_no h2).1)]
      exact (priv_no h2).2.1
    clear HF HL0 HSU
    generalize (oneF (fun p => madeB p 4 4 true) r).1 = scr at *
    generalize (oneF (fun p => madeB p 4 4 true) r).2 = qs at *
    have HSU := hid hsu1
    have HSF1 := hid hsf1
    have HRS := hid hRS
    have M22 := hid (more22 b k qs lv wc hRS.view hRS.rd (SUF.out qs hsu1).2.1)
    have M33 := hid (more33t b k qs lv wc hRS.view hRS.rd (SUF.out qs hsu1).2.1)
    have HRM : Hid (seesF regionB qs = (seesM (moreB 2 2 false) qs || seesM (moreB 3 3 true) qs)) := hid (by
     rcases qs with _ | ⟨p, q⟩
     ·rfl
     ·exact regionB_more p)
    have y0 := (row_of hRS.tg 0 _ rfl).1
    clear hsu1 hsf1 hRS r
    obtain ⟨wo, rfl⟩ : ∃ wo : World, wo = wc := ⟨_, rfl⟩
    go_upto_region 9 with fail
    go_cut [48] (fun s wx => s = .bool (seesF regionB qs) /\ wx = wo)
    case first =>
     cases hle : (l == []) with
     | true =>
      have HQ := hid (HSF1.out (by simpa using hle))
      have hle2 : l.isEmpty = true := by rw [List.isEmpty_iff]; simpa using hle
      go_wp2_with fail
      go_meet
      case rel => exact ⟨by rw [HQ.out], rfl⟩
     | false =>
      have hle2 : l.isEmpty = false := by cases l with | nil => cases hle | cons c d => rfl
      cases hq : seesM (moreB 2 2 false) qs <;> cases hq2 : seesM (moreB 3 3 true) qs <;> (
       have HQ : Hid (seesF regionB qs = _) := hid (by rw [HRM.out, hq, hq2])
       rw [hq] at M22
       rw [hq2] at M33
       clear hq hq2
       go_wp2_with (first | (go_at_call 213; (with_reducible refine M22.out.mono ?_); rintro e3 w3 ⟨rfl, hw3⟩; obtain rfl := hw3.symm) | (go_at_call 213; (with_reducible refine M33.out.mono ?_); rintro e3 w3 ⟨rfl, hw3⟩; obtain rfl := hw3.symm) | fail)
       go_meet
       case rel => exact ⟨by rw [HQ.out]; rfl, rfl⟩)
    case rest =>
     obtain ⟨rfl, rfl⟩ := hcut
     clear M22 M33 HSF1 y0 HRM
     go_upto_if 48 with fail
     obtain ⟨wo, rfl⟩ : ∃ wo : World, wo = wc := ⟨_, rfl⟩
     go_cut [] (fun wx => ∃ lv', RSt w wx b tb k lv' (oneF regionB qs).2 l e scr (oneF regionB qs).1 (.slice none 0 0) (.slice none 0 0) [] [])
     case first =>
      cases hq : seesF regionB qs with
      | false =>
       have HO : Hid (oneF regionB qs = ([], qs)) := hid (oneF_no hq)
       clear hq
       go_wp2_with fail
       go_meet
       case rel => rw [HO.out]; exact ⟨lv, HRS.out⟩
      | true =>
       rcases qs with _ | ⟨p, qs⟩
       ·cases hq
       have HO : Hid (oneF regionB (p :: qs) = (p, qs)) := hid (oneF_yes hq)
       have N := hid (NEXT.out b k p qs lv wo HRS.out.view HRS.out.rd HC.out.kb)
       clear hq
       go_wp2_with (go_at_call 214; (with_reducible refine N.out.mono ?_); rintro e4 w4 ⟨rfl, lv4, hv4, hR4, hg4⟩; have H4 := hid (HRS.out.next HC.out hv4 hR4 hg4); have c2 := (row_of H4.out.tg 3 _ rfl).1; have f2 := (row_of H4.out.tg 3 _ rfl).2; clear hv4 hR4 hg4)
       go_meet
       case rel => rw [HO.out]; exact ⟨lv4, H4.out.region HC.out p⟩
     case rest =>
      clear HRS
      obtain ⟨lv, hRS⟩ := hcut
      have HF2 : Hid (frontF (x :: xs) = restH l e scr (oneF regionB qs).1 (oneF regionB qs).2) := hid HF1.out
      have hsu2 : (oneF regionB qs).2 <:+ x :: xs := (oneF_suf _ qs).trans HSU.out
      clear HF1 HSU
      generalize (oneF regionB qs).1 = reg at *
      generalize (oneF regionB qs).2 = rs at *
      have HSU := hid hsu2
      have HRS := hid hRS
      clear hsu2 hRS qs
      obtain ⟨i0, hi, hz0, hz1, hz2⟩ := info_parts infoStr
      go_upto_block 0 with fail
      go_cut [] (fun wx => ∃ (taken left : List (List UInt8)) (lv vv : Value), varsF [] rs = some (taken, left) /\ left <:+ x :: xs /\ taken.length + left.length = rs.length /\ (∀ v ∈ taken, 4 <= v.length /\ v.length <= 1400000) /\ RSt w wx b tb k lv left l e scr reg vv (.slice none 0 0) taken [])
      case first =>
       have hrn := (SUF.out rs HSU.out).1
       go_wp2_with fail
       go_loopw [7] (fun _ wr => ∃ (taken left : List (List UInt8)) (lv vv : Value), Hid (varsF [] rs = (varsF (taken.map lowL) left).map fun x => (taken ++ x.1, x.2)) /\ Hid (left <:+ x :: xs) /\ taken.length + left.length = rs.length /\ Hid (∀ v ∈ taken, 4 <= v.length /\ v.length <= 1400000) /\ Hid (RSt w wr b tb k lv left l e scr reg vv (.slice none 0 0) taken [])) (fun _ wr => cellLen wr b)
       case atStart => exact ⟨[], rs, lv, .slice none 0 0, hid (by simp), HSU, by simp, hid (fun v hv => by cases hv), HRS⟩
       case round =>
        clear HSU HRS
        clear lv
        obtain ⟨taken, left, lv, vv, HM, HSU, hlen, HTK, HR⟩ := hrel
        have HCM : Hid (cellLen wr b = left.length) := hid (by rw [cellLen_of (row_of HR.out.rd 0 _ rfl).1, HR.out.view.len])
        have y0 := (row_of HR.out.rd 0 _ rfl).1
        rcases left with _ | ⟨p, left⟩
        ·obtain ⟨o, cp, rfl⟩ := HR.out.view.empty
         have HE : Hid (varsF [] rs = some (taken, [])) := hid (by rw [HM.out, varsF_no rfl]; simp)
         clear HM HCM
         go_wp2_with fail
         go_meet
         case rel => exact ⟨taken, [], _, vv, HE.out, HSU.out, hlen, HTK.out, HR.out⟩
        ·have hpl := (SUF.out _ HSU.out).2.2.1 p (by simp)
         have VA := hid (refVariant_l p wr (by omega))
         have hsu' : left <:+ x :: xs := (List.suffix_cons _ _).trans HSU.out
         cases hq : variantB p with
         | false =>
          rw [hq] at VA
          have HE : Hid (varsF [] rs = some (taken, p :: left)) := hid (by rw [HM.out, varsF_no (show seesF variantB (p :: left) = false from hq)]; simp)
          clear HM HCM hq hsu'
          obtain ⟨o, cp, rfl, hcc, hd, _⟩ := HR.out.view.cons
          have hzz : decide (0 < (left.length : Int) + 1) = true := decide_eq_true (by omega)
          go_wp2_with (go_at_call 215; (with_reducible refine VA.out.mono ?_); rintro e3 w3 ⟨rfl, hw3⟩; obtain rfl := hw3.symm)
          go_meet
          case rel => exact ⟨taken, p :: left, _, vv, HE.out, HSU.out, hlen, HTK.out, HR.out⟩
         | true =>
          rw [hq] at VA
          have hvl := variantB_len hq
          have HSU' := hid hsu'
          have N := hid (NEXT.out b k p left lv wr HR.out.view HR.out.rd HC.out.kb)
          obtain ⟨o, cp, rfl, hcc, hd, _⟩ := HR.out.view.cons
          have hzz : decide (0 < (left.length : Int) + 1) = true := decide_eq_true (by omega)
          have LP := hid (fun u => RLOW.out p u (by unfold maxLen; omega))
          have HMQ := hid (And.intro hq HM.out)
          have htn : taken.length <= 1400001 := by simp at hlen; omega
          clear hq HM hsu'
          go_wp2_with (first
           | (go_at_call 215; (with_reducible refine VA.out.mono ?_); rintro e3 w3 ⟨rfl, hw3⟩; obtain rfl := hw3.symm)
           | (go_at_call 214; (with_reducible refine N.out.mono ?_); rintro e4 w4 ⟨rfl, lv4, hv4, hR4, hg4⟩; have H4 := hid (HR.out.next HC.out hv4 hR4 hg4); clear hv4 hR4 hg4)
           | fail)
          obtain ⟨va, vcap, rfl, hvcap, _, _⟩ := ownsRow_at H4.out.ov
          obtain ⟨wo, rfl⟩ : ∃ wo : World, wo = w4 := ⟨_, rfl⟩
          go_loopw [8] (fun i wr => ∃ j : Nat, i = .int .i64 j /\ j <= taken.length /\ Hid ((taken.map lowL).contains (lowL p) = ((taken.drop j).map lowL).contains (lowL p)) /\ Below wo.heap.size wo wr) (fun i _ => taken.length - (intOf i).toNat)
          case atStart => exact ⟨0, rfl, Nat.zero_le _, hid (by simp), Below.refl _ _⟩
          case round =>
           obtain ⟨j, rfl, hj, HD, hb⟩ := hrel
           have HB := hid hb
           clear hb
           have H5 := hid (H4.out.below HB.out)
           have y4 := (row_of H5.out.tg 4 _ rfl).1
           by_cases hlt : j < taken.length
           ·obtain ⟨_, _, he, _, _, hAA⟩ := ownsRow_at H5.out.ov
            cases he
            obtain ⟨vb, vo, rfl⟩ := hAA.place (by simp; omega)
            have hxc := strAt hAA hlt
            have hxl := (HTK.out taken[j] (List.getElem_mem ..)).2
            obtain ⟨z, hz⟩ : ∃ z, taken[j] = z := ⟨_, rfl⟩
            rw [hz] at hxc hxl
            have hst : ((taken.drop j).map lowL).contains (lowL p) = (lowL p == lowL z || ((taken.drop (j + 1)).map lowL).contains (lowL p)) := by
             rw [List.drop_eq_getElem_cons hlt, hz, List.map_cons, List.contains_cons]
            have LZ := hid (fun u => RLOW.out z u (by unfold maxLen; omega))
            have tok : True := trivial
            clear hAA
            have HZ := hid hz
            clear hz
            cases hq2 : (lowL z == lowL p) with
            | true =>
             have HE : Hid (tagF s = none) := hid (by
              have hdup : (taken.map lowL).contains (lowL p) = true := by
               rw [HD.out, hst, Bool.or_eq_true]
               rw [beq_iff_eq] at hq2
               exact .inl (by rw [hq2]; simp)
              have hv0 : varsF [] rs = none := by rw [HMQ.out.2, varsF_dup HMQ.out.1 hdup]; rfl
              rw [HT.out, HF2.out]
              unfold restH
              rw [hv0]
              rfl)
             clear hst HD
             go_wp2_with (first
              | (go_at_call 167; have tok2 := tok; (with_reducible refine (LZ.out _).mono ?_); rintro e6 w6 ⟨rfl, hb6⟩; have H6 := hid (H5.out.below hb6); clear hb6 tok tok2)
              | (go_at_call 167; (with_reducible refine (LP.out _).mono ?_); rintro e7 w7 ⟨rfl, hb7⟩; have H7 := hid (H6.out.below hb7); have z0 := row_of H7.out.zr 0 _ rfl; have z1 := row_of H7.out.zr 1 _ rfl; have z2 := row_of H7.out.zr 2 _ rfl; have z3 := row_of H7.out.zr 3 _ rfl; have z4 := row_of H7.out.zr 4 _ rfl; have z5 := row_of H7.out.zr 5 _ rfl; have z6 := row_of H7.out.zr 6 _ rfl; clear hb7)
              | fail)
             have P7 := put7 (show RowAt w7 w.heap.size [.string ⟨#[]⟩, .string ⟨#[]⟩, .string ⟨#[]⟩, .string ⟨#[]⟩, .slice none 0 0, .slice none 0 0, .string ⟨#[]⟩] from (H7.out).zr) (.string ⟨#[]⟩) (.string ⟨#[]⟩) (.string ⟨#[]⟩) (.string ⟨#[]⟩) (.slice none 0 0) (.slice none 0 0) (.string ⟨#[]⟩)
             have c0 := (row_of P7.1 0 _ rfl).1; have c1 := (row_of P7.1 1 _ rfl).1; have c2 := (row_of P7.1 2 _ rfl).1; have c3 := (row_of P7.1 3 _ rfl).1; have c4 := (row_of P7.1 4 _ rfl).1; have c5 := (row_of P7.1 5 _ rfl).1; have c6 := (row_of P7.1 6 _ rfl).1
             have hbe := (H7.out).bl.grown P7.2 (H7.out).bl.size (fun j hj => by cases hj; exact Nat.le_refl _)
             generalize (((((((w7.setCell ⟨w.heap.size, 0, none⟩ (.string ⟨#[]⟩)).setCell ⟨w.heap.size, 1, none⟩ (.string ⟨#[]⟩)).setCell ⟨w.heap.size, 2, none⟩ (.string ⟨#[]⟩)).setCell ⟨w.heap.size, 3, none⟩ (.string ⟨#[]⟩)).setCell ⟨w.heap.size, 4, none⟩ (.slice none 0 0)).setCell ⟨w.heap.size, 5, none⟩ (.slice none 0 0)).setCell ⟨w.heap.size, 6, none⟩ (.string ⟨#[]⟩)) = we at *
             refine bodyPost_ret (v := .tuple #[.agg (tagCells noTag none none 0 0), .int .i64 61]) (by simp [results, Tryz.results166, go_sem, c0, c1, c2, c3, c4, c5, c6, tagCells, noTag, B]) rfl ?_
             rw [HE.out]
             exact ⟨rfl, hbe⟩
            | false =>
             have HD2 : Hid ((taken.map lowL).contains (lowL p) = ((taken.drop (j + 1)).map lowL).contains (lowL p)) := hid (by
              have hne : (lowL p == lowL z) = false := by
               rw [beq_eq_false_iff_ne] at hq2 ⊢
               exact fun e => hq2 e.symm
              rw [HD.out, hst, hne, Bool.false_or])
             clear hst HD
             go_wp2_with (first
              | (go_at_call 167; have tok2 := tok; (with_reducible refine (LZ.out _).mono ?_); rintro e6 w6 ⟨rfl, hb6⟩; have HB6 := hid (HB.out.trans (hb6.mono HB.out.size)); clear hb6 tok tok2)
              | (go_at_call 167; (with_reducible refine (LP.out _).mono ?_); rintro e7 w7 ⟨rfl, hb7⟩; have HB7 := hid (HB6.out.trans (hb7.mono HB6.out.size)); clear hb7)
              | fail)
             go_roundw
             case rel => exact ⟨j + 1, by go_num, hlt, HD2, HB7.out⟩
             case measure => simp [intOf]; omega
           ·obtain rfl : j = taken.length := by omega
            have HNC : Hid ((taken.map lowL).contains (lowL p) = false) := hid (by rw [HD.out, List.drop_length]; rfl)
            have hov := H5.out.ov
            have hsz : b + 1 <= wr.heap.size := H5.out.lb
            clear HD hj hlt
            go_wp2_with (at_builtin; refine wpList_append_texts rfl (.tmp 87) (.tmp 89) 190 rfl (b + 1) 9 i0 (.string ⟨#[]⟩) 16 Tryz.underlying190 hi hz0 hz1 hz2 rfl _ _ _ rfl (hov.alloc _) (some ⟨wr.heap.size, 0, none⟩) 1 1 [.string (B p)] rfl rfl (at_one _ _ _) (fun h => nomatch h) (fun u hu => by rw [List.mem_singleton.1 hu]; rfl) ?c4 ?c5 ?c6 ?_)
            case c4 => unfold maxLen; omega
            case c5 => omega
            case c6 => rw [World.size_alloc]; omega
            intro v9 w9 hown9 hg9 ho9
            have hx9 : wr.grownBy w9 (Value.slice va taken.length vcap).ownBlock := grown_trans (World.grownBy_alloc wr _ _) hg9
            have htg := H5.out.tgV HC.out hx9
            have x9 := (row_of htg 4 _ rfl).1
            have f9 := (row_of htg 4 _ rfl).2
            have hown9' : w9.ownsRow (b + 1) 9 1 v9 (taken ++ [p]).length ((taken ++ [p]).map strV) := by
             rw [List.length_append, List.map_append]; exact hown9
            have H9 := hid (H5.out.appV HC.out hx9 hown9' ho9 (by simp))
            obtain ⟨ga, gc, rfl, _, _, _⟩ := ownsRow_at hown9
            clear hov hown9 hg9 ho9 hx9 htg hown9' y4
            go_wp2_with fail
            go_roundw
            case rel =>
             exact ⟨taken ++ [p], left, lv4, _, hid (by rw [HMQ.out.2, varsF_step HMQ.out.1 HNC.out, Option.map_map]; simp [Function.comp_def]), HSU', by simp at hlen ⊢; omega, hid (fun v hv => by
              rcases List.mem_append.1 hv with h | h
              ·exact HTK.out v h
              ·rw [List.mem_singleton.1 h]; exact ⟨hvl, hpl⟩), H9⟩
            case measure =>
             rw [HCM.out, cellLen_of (row_of H9.out.rd 0 _ rfl).1, H9.out.view.len]
             simp
      case rest =>
       clear HRS HSU
       obtain ⟨vars, left0, lv, vv, hv0, hsu, hlen, hvk, hRS⟩ := hcut
       have HF3 : Hid (∀ ex, extsF (vars.map lowL) left0 = ex -> frontF (x :: xs) = match ex with
         | none => none
         | some e' => some (⟨l, e, scr, reg, vars, e'.1, []⟩, e'.2)) := hid (fun ex hx => by
        rw [HF2.out]
        unfold restH
        rw [hv0]
        simp only [hx]
        cases ex <;> rfl)
       have HSU := hid hsu
       have HRS := hid hRS
       have HSK : Hid (SeenOK (vars.map lowL) []) := hid (SeenOK.start (fun v hv => (hvk v hv).1))
       have hll := (SUF.out left0 hsu).1
       clear hv0 hsu hlen hvk hRS HF2
       go_upto_block 4 with fail
       go_cut [] (fun wx => ∃ (exts left : List (List UInt8)) (lv ev : Value), extsF (vars.map lowL) left0 = some (exts, left) /\ left <:+ x :: xs /\ RSt w wx b tb k lv left l e scr reg vv ev vars exts)
       case first =>
        go_wp2_with fail
        go_loopw [9] (fun _ wr => ∃ (low exts left : List (List UInt8)) (lv ev : Value), Hid (extsF (vars.map lowL) left0 = (extsF low left).map fun x => (exts ++ x.1, x.2)) /\ Hid (left <:+ x :: xs) /\ exts.length + left.length <= 1400001 /\ Hid (SeenOK low exts) /\ Hid (∀ v ∈ exts, 1 <= v.length /\ v.length <= 140737488351232) /\ Hid (RSt w wr b tb k lv left l e scr reg vv ev vars exts)) (fun _ wr => cellLen wr b)
        case atStart => exact ⟨vars.map lowL, [], left0, lv, .slice none 0 0, hid (by simp), HSU, by simp; omega, HSK, hid (fun v hv => by cases hv), HRS⟩
        case round =>
         clear HSU HRS HSK
         clear lv
         obtain ⟨low, exts, left, lv, ev, HM, HSU, hlen, HSK, HTK, HR⟩ := hrel
         have HCM : Hid (cellLen wr b = left.length) := hid (by rw [cellLen_of (row_of HR.out.rd 0 _ rfl).1, HR.out.view.len])
         have y0 := (row_of HR.out.rd 0 _ rfl).1
         rcases left with _ | ⟨p, left⟩
         ·obtain ⟨o, cp, rfl⟩ := HR.out.view.empty
          have HE : Hid (extsF (vars.map lowL) left0 = some (exts, [])) := hid (by rw [HM.out, extsF_no rfl]; simp)
          clear HM HCM
          go_wp2_with fail
          go_meet
          case rel => exact ⟨exts, [], _, ev, HE.out, HSU.out, HR.out⟩
         ·have hpl := (SUF.out _ HSU.out).2.2.1 p (by simp)
          have hpall := (SUF.out _ HSU.out).2.2.1
          have hlall := (SUF.out _ HSU.out).1
          have LP := hid (fun u => RLOW.out p u (by unfold maxLen; omega))
          have BO := hid (fun u => both11 p u (by omega))
          have hsu' : left <:+ x :: xs := (List.suffix_cons _ _).trans HSU.out
          have HSU' := hid hsu'
          have HPA := hid (fun q (hq : q ∈ left) => hpall q (by simp [hq]))
          clear hsu' hpall
          cases hpx : privB p with
          | true =>
           have hxx : (lowL p == [120]) = true := by rw [lowL_x]; exact hpx
           have HE : Hid (extsF (vars.map lowL) left0 = some (exts, p :: left)) := hid (by rw [HM.out, extsF_no (show seesF (fun p => madeB p 1 1 false && !privB p) (p :: left) = false from (priv_no hpx).2.2.2)]; simp)
           obtain ⟨o, cp, rfl, hcc, hd, _⟩ := HR.out.view.cons
           have hzz : decide (0 < (left.length : Int) + 1) = true := decide_eq_true (by omega)
           clear HM HCM hpx
           go_wp2_with (go_at_call 167; (with_reducible refine (LP.out _).mono ?_); rintro e6 w6 ⟨rfl, hb6⟩; have H6 := hid (HR.out.below hb6); clear hb6)
           go_meet
           case rel => exact ⟨exts, p :: left, _, ev, HE.out, HSU.out, H6.out⟩
          | false =>
           have hxx : (lowL p == [120]) = false := by rw [lowL_x]; exact hpx
           cases hmd : madeB p 1 1 false with
           | false =>
            have HE : Hid (extsF (vars.map lowL) left0 = some (exts, p :: left)) := hid (by rw [HM.out, extsF_no (show seesF (fun p => madeB p 1 1 false && !privB p) (p :: left) = false from (show (madeB p 1 1 false && !privB p) = false by rw [hmd]; rfl))]; simp)
            rw [hmd] at BO
            obtain ⟨o, cp, rfl, hcc, hd, _⟩ := HR.out.view.cons
            have hzz : decide (0 < (left.length : Int) + 1) = true := decide_eq_true (by omega)
            clear HM HCM hpx hmd
            go_wp2_with (first
             | (go_at_call 167; (with_reducible refine (LP.out _).mono ?_); rintro e6 w6 ⟨rfl, hb6⟩; have H6 := hid (HR.out.below hb6); have x0 := (row_of H6.out.rd 0 _ rfl).1; have xd := (hb6.cell (p := ⟨k, o, none⟩) (World.block_lt_of_cell? _ _ hd)).trans hd; clear hb6)
             | (go_at_call 216; (with_reducible refine (BO.out _).mono ?_); rintro e3 w3 ⟨rfl, hw3⟩; obtain rfl := hw3.symm)
             | fail)
            go_meet
            case rel => exact ⟨exts, p :: left, _, ev, HE.out, HSU.out, H6.out⟩
           | true =>
            have hvp : (madeB p 1 1 false && !privB p) = true := by rw [hmd, hpx]; rfl
            have hp1 : p.length = 1 := by have := made_len hmd; omega
            rw [hmd] at BO
            have HHD := hid (And.intro HM.out (And.intro hvp (HSK.out p hp1)))
            have hln : left.length <= 1500000 := by simp at hlen; omega
            obtain ⟨o, cp, hlv, hcc, hd, _⟩ := HR.out.view.cons
            have EX := hid (fun u (h : RSt w u b tb k lv (p :: left) l e scr reg vv ev vars exts) => rext_l b tb k (b + 1) _ _ _ _ _ _ ev exts p left lv u h.view h.rd h.tg h.oe HC.out.kb HC.out.kt (by have := HC.out.bt; omega) (by have := h.lb; have := HC.out.kl; omega) (fun g hg => by have := (h.oe.lt g hg).1; have := HC.out.kl; have := HC.out.bt; omega) h.lb hp1 (fun q hq => Nat.le_trans (HPA.out q hq) (by omega)) hln (by omega) HTK.out)
            have hzz : decide (0 < (left.length : Int) + 1) = true := decide_eq_true (by omega)
            subst hlv
            clear HM hpx hmd hvp
            go_wp2_with (first
             | (go_at_call 167; (with_reducible refine (LP.out _).mono ?_); rintro e6 w6 ⟨rfl, hb6⟩; have H6 := hid (HR.out.below hb6); have x0 := (row_of H6.out.rd 0 _ rfl).1; have xd := (hb6.cell (p := ⟨k, o, none⟩) (World.block_lt_of_cell? _ _ hd)).trans hd; have E6 := hid (EX.out w6 H6.out); clear hb6)
             | (go_at_call 216; (with_reducible refine (BO.out _).mono ?_); rintro e3 w3 ⟨rfl, hw3⟩; obtain rfl := hw3.symm)
             | fail)
            refine E6.out.mono ?_
            rintro e8 w8 (⟨hdx, rfl, hg8⟩ | ⟨hdx, rfl, lv8, ev8, hv8, hr8, ht8, ho8, hb8, hg8⟩)
            ·have HE : Hid (tagF s = none) := hid (by
              rw [HT.out, HF3.out _ HHD.out.1, extsF_bad HHD.out.2.1 (.inr (by rw [HHD.out.2.2]; exact hdx))]
              rfl)
             have H8 := hid (H6.out.frame0 HC.out hg8)
             have z0 := row_of H8.out.1 0 _ rfl; have z1 := row_of H8.out.1 1 _ rfl; have z2 := row_of H8.out.1 2 _ rfl; have z3 := row_of H8.out.1 3 _ rfl; have z4 := row_of H8.out.1 4 _ rfl; have z5 := row_of H8.out.1 5 _ rfl; have z6 := row_of H8.out.1 6 _ rfl
             clear hdx hg8
             go_wp2_with fail
             have P7 := put7 (show RowAt w8 w.heap.size [.string ⟨#[]⟩, .string ⟨#[]⟩, .string ⟨#[]⟩, .string ⟨#[]⟩, .slice none 0 0, .slice none 0 0, .string ⟨#[]⟩] from (H8.out).1) (.string ⟨#[]⟩) (.string ⟨#[]⟩) (.string ⟨#[]⟩) (.string ⟨#[]⟩) (.slice none 0 0) (.slice none 0 0) (.string ⟨#[]⟩)
             have c0 := (row_of P7.1 0 _ rfl).1; have c1 := (row_of P7.1 1 _ rfl).1; have c2 := (row_of P7.1 2 _ rfl).1; have c3 := (row_of P7.1 3 _ rfl).1; have c4 := (row_of P7.1 4 _ rfl).1; have c5 := (row_of P7.1 5 _ rfl).1; have c6 := (row_of P7.1 6 _ rfl).1
             have hbe := (H8.out).2.grown P7.2 (H8.out).2.size (fun j hj => by cases hj; exact Nat.le_refl _)
             generalize (((((((w8.setCell ⟨w.heap.size, 0, none⟩ (.string ⟨#[]⟩)).setCell ⟨w.heap.size, 1, none⟩ (.string ⟨#[]⟩)).setCell ⟨w.heap.size, 2, none⟩ (.string ⟨#[]⟩)).setCell ⟨w.heap.size, 3, none⟩ (.string ⟨#[]⟩)).setCell ⟨w.heap.size, 4, none⟩ (.slice none 0 0)).setCell ⟨w.heap.size, 5, none⟩ (.slice none 0 0)).setCell ⟨w.heap.size, 6, none⟩ (.string ⟨#[]⟩)) = we at *
             refine bodyPost_ret (v := .tuple #[.agg (tagCells noTag none none 0 0), .int .i64 61]) (by simp [results, Tryz.results166, go_sem, c0, c1, c2, c3, c4, c5, c6, tagCells, noTag, B]) rfl ?_
             rw [HE.out]
             exact ⟨rfl, hbe⟩
            ·cases hm0 : ((tagTail 2 left).1 == []) with
             | true =>
              have HE : Hid (tagF s = none) := hid (by
               rw [HT.out, HF3.out _ HHD.out.1, extsF_bad HHD.out.2.1 (.inl (by simpa using hm0))]
               rfl)
              have H8 := hid (H6.out.frameE HC.out hg8)
              have z0 := row_of H8.out.1 0 _ rfl; have z1 := row_of H8.out.1 1 _ rfl; have z2 := row_of H8.out.1 2 _ rfl; have z3 := row_of H8.out.1 3 _ rfl; have z4 := row_of H8.out.1 4 _ rfl; have z5 := row_of H8.out.1 5 _ rfl; have z6 := row_of H8.out.1 6 _ rfl
              clear hdx hg8 hv8 hr8 ht8 ho8 hb8 hm0
              go_wp2_with fail
              have P7 := put7 (show RowAt w8 w.heap.size [.string ⟨#[]⟩, .string ⟨#[]⟩, .string ⟨#[]⟩, .string ⟨#[]⟩, .slice none 0 0, .slice none 0 0, .string ⟨#[]⟩] from (H8.out).1) (.string ⟨#[]⟩) (.string ⟨#[]⟩) (.string ⟨#[]⟩) (.string ⟨#[]⟩) (.slice none 0 0) (.slice none 0 0) (.string ⟨#[]⟩)
              have c0 := (row_of P7.1 0 _ rfl).1; have c1 := (row_of P7.1 1 _ rfl).1; have c2 := (row_of P7.1 2 _ rfl).1; have c3 := (row_of P7.1 3 _ rfl).1; have c4 := (row_of P7.1 4 _ rfl).1; have c5 := (row_of P7.1 5 _ rfl).1; have c6 := (row_of P7.1 6 _ rfl).1
              have hbe := (H8.out).2.grown P7.2 (H8.out).2.size (fun j hj => by cases hj; exact Nat.le_refl _)
              generalize (((((((w8.setCell ⟨w.heap.size, 0, none⟩ (.string ⟨#[]⟩)).setCell ⟨w.heap.size, 1, none⟩ (.string ⟨#[]⟩)).setCell ⟨w.heap.size, 2, none⟩ (.string ⟨#[]⟩)).setCell ⟨w.heap.size, 3, none⟩ (.string ⟨#[]⟩)).setCell ⟨w.heap.size, 4, none⟩ (.slice none 0 0)).setCell ⟨w.heap.size, 5, none⟩ (.slice none 0 0)).setCell ⟨w.heap.size, 6, none⟩ (.string ⟨#[]⟩)) = we at *
              refine bodyPost_ret (v := .tuple #[.agg (tagCells noTag none none 0 0), .int .i64 61]) (by simp [results, Tryz.results166, go_sem, c0, c1, c2, c3, c4, c5, c6, tagCells, noTag, B]) rfl ?_
              rw [HE.out]
              exact ⟨rfl, hbe⟩
             | false =>
              have hne : ¬ ((tagTail 2 left).1 = [] \/ low.contains (lowL p) = true) := by
               rw [HHD.out.2.2, hdx]
               simpa using hm0
              have HE : Hid (extsF (vars.map lowL) left0 = (extsF (low ++ [lowL p]) (tagTail 2 left).2).map fun x => ((exts ++ [joinD (p :: (tagTail 2 left).1)]) ++ x.1, x.2)) := hid (by
               rw [HHD.out.1, extsF_step HHD.out.2.1 hne, Option.map_map]
               simp [Function.comp_def])
              have H8 := hid (H6.out.ext HC.out hg8 hv8 hr8 ht8 ho8 hb8)
              have htl := tagTail_len 2 left
              have hfl := tagTail_flat 2 left
              have hjf := joinD_flat (tagTail 2 left).1 p
              have hjl : 1 <= (joinD (p :: (tagTail 2 left).1)).length /\ (joinD (p :: (tagTail 2 left).1)).length <= 140737488351232 := by
               rw [hjf, List.length_append]; omega
              have HJL := hid hjl
              have HTL := hid htl
              clear hdx hg8 hv8 hr8 ht8 ho8 hb8 hm0 hne htl hfl hjf hjl
              go_wp2_with fail
              go_roundw
              case rel => exact ⟨low ++ [lowL p], exts ++ [joinD (p :: (tagTail 2 left).1)], (tagTail 2 left).2, lv8, ev8, HE, hid ((tagTail_suf 2 left).trans HSU'.out), by have := HTL.out; simp at hlen ⊢; omega, hid (HSK.out.step hp1 _), hid (fun v hv => by
               rcases List.mem_append.1 hv with h | h
               ·exact HTK.out v h
               ·rw [List.mem_singleton.1 h]; exact HJL.out), H8⟩
              case measure =>
               rw [HCM.out, cellLen_of (row_of H8.out.rd 0 _ rfl).1, H8.out.view.len]
               have := HTL.out
               simp
               omega
       case rest =>
        clear HRS HSU HSK
        obtain ⟨exts, left, lv, ev, hev, hsu, hRS⟩ := hcut
        have HF4 : Hid (tagF s = finalF (some (⟨l, e, scr, reg, vars, exts, []⟩, left))) := hid (by rw [HT.out, HF3.out _ hev])
        have HR := hid hRS
        have y0 := (row_of hRS.rd 0 _ rfl).1
        obtain ⟨a1, d1, rfl, _, _, _⟩ := ownsRow_at hRS.ov
        obtain ⟨a2, d2, rfl, _, _, _⟩ := ownsRow_at hRS.oe
        have hbb := HC.out.bt
        have htt := HC.out.tt
        rcases left with _ | ⟨p, left⟩
        ·obtain ⟨o, cp, rfl⟩ := hRS.view.empty
         have HE : Hid (tagF s = some ⟨l, e, scr, reg, vars, exts, []⟩) := hid HF4.out
         have z0 := row_of hRS.zr 0 _ rfl; have z1 := row_of hRS.zr 1 _ rfl; have z2 := row_of hRS.zr 2 _ rfl; have z3 := row_of hRS.zr 3 _ rfl; have z4 := row_of hRS.zr 4 _ rfl; have z5 := row_of hRS.zr 5 _ rfl; have z6 := row_of hRS.zr 6 _ rfl
         have t0 := (row_of hRS.tg 0 _ rfl).1; have y1 := (row_of hRS.tg 1 _ rfl).1; have y2 := (row_of hRS.tg 2 _ rfl).1; have y3 := (row_of hRS.tg 3 _ rfl).1; have y4 := (row_of hRS.tg 4 _ rfl).1; have y5 := (row_of hRS.tg 5 _ rfl).1; have y6 := (row_of hRS.tg 6 _ rfl).1
         clear hRS hev hsu
         go_wp2_with fail
         have P7 := put7 (show RowAt wc w.heap.size [.string ⟨#[]⟩, .string ⟨#[]⟩, .string ⟨#[]⟩, .string ⟨#[]⟩, .slice none 0 0, .slice none 0 0, .string ⟨#[]⟩] from HR.out.zr) (.string (B l)) (.string (B e)) (.string (B scr)) (.string (B reg)) (.slice a1 vars.length d1) (.slice a2 exts.length d2) (.string ⟨#[]⟩)
         have c0 := (row_of P7.1 0 _ rfl).1; have c1 := (row_of P7.1 1 _ rfl).1; have c2 := (row_of P7.1 2 _ rfl).1; have c3 := (row_of P7.1 3 _ rfl).1; have c4 := (row_of P7.1 4 _ rfl).1; have c5 := (row_of P7.1 5 _ rfl).1; have c6 := (row_of P7.1 6 _ rfl).1
         have hbe := (HR.out.bl).grown P7.2 (HR.out.bl).size (fun j hj => by cases hj; exact Nat.le_refl _)
         have o1 := own_kept (HR.out.ov) P7.2 (by omega)
         have o2 := own_kept (HR.out.oe) P7.2 (by omega)
         generalize (((((((wc.setCell ⟨w.heap.size, 0, none⟩ (.string (B l))).setCell ⟨w.heap.size, 1, none⟩ (.string (B e))).setCell ⟨w.heap.size, 2, none⟩ (.string (B scr))).setCell ⟨w.heap.size, 3, none⟩ (.string (B reg))).setCell ⟨w.heap.size, 4, none⟩ (.slice a1 vars.length d1)).setCell ⟨w.heap.size, 5, none⟩ (.slice a2 exts.length d2)).setCell ⟨w.heap.size, 6, none⟩ (.string ⟨#[]⟩)) = we at *
         refine bodyPost_ret (v := .tuple #[.agg (tagCells ⟨l, e, scr, reg, vars, exts, []⟩ a1 a2 d1 d2), .int .i64 0]) (by simp [results, Tryz.results166, go_sem, c0, c1, c2, c3, c4, c5, c6, tagCells, B]) rfl ?_
         rw [HE.out]
         exact ⟨a1, a2, d1, d2, rfl, hbe, ownsRow_mono o1 (by omega), ownsRow_mono o2 (by omega), HR.out.ap⟩
        ·have hpl := (SUF.out _ hsu).2.2.1 p (by simp)
         have hpall := (SUF.out _ hsu).2.2.1
         have hlall := (SUF.out _ hsu).1
         have hjl := (SUF.out _ hsu).2.2.2
         have LP := hid (fun u => RLOW.out p u (by unfold maxLen; omega))
         have PV := hid (fun u (h : RSt w u b tb k lv (p :: left) l e scr reg (.slice a1 vars.length d1) (.slice a2 exts.length d2) vars exts) => rpriv_l b tb k _ _ _ _ _ _ _ p left lv u h.view h.rd h.tg HC.out.kt (by omega) (fun q hq => Nat.le_trans (hpall q (by simp [hq])) (by omega)) (by simp at hlall; omega) (by omega))
         obtain ⟨o, cp, rfl, hcc, hd, _⟩ := hRS.view.cons
         have hzz : decide (0 < (left.length : Int) + 1) = true := decide_eq_true (by omega)
         clear hRS hev hsu hpall hlall hjl hpl
         cases hpx : privB p with
         | false =>
          have hxx : (lowL p == [120]) = false := by rw [lowL_x]; exact hpx
          have HE : Hid (tagF s = none) := hid (by rw [HF4.out, finalF_cons]; rw [if_neg (by rw [hpx]; simp)])
          clear hpx PV
          go_wp2_with (go_at_call 167; (with_reducible refine (LP.out _).mono ?_); rintro e6 w6 ⟨rfl, hb6⟩; have H6 := hid (HR.out.below hb6); have x0 := (row_of H6.out.rd 0 _ rfl).1; have z0 := row_of H6.out.zr 0 _ rfl; have z1 := row_of H6.out.zr 1 _ rfl; have z2 := row_of H6.out.zr 2 _ rfl; have z3 := row_of H6.out.zr 3 _ rfl; have z4 := row_of H6.out.zr 4 _ rfl; have z5 := row_of H6.out.zr 5 _ rfl; have z6 := row_of H6.out.zr 6 _ rfl; clear hb6)
          have P7 := put7 (show RowAt w6 w.heap.size [.string ⟨#[]⟩, .string ⟨#[]⟩, .string ⟨#[]⟩, .string ⟨#[]⟩, .slice none 0 0, .slice none 0 0, .string ⟨#[]⟩] from (H6.out).zr) (.string ⟨#[]⟩) (.string ⟨#[]⟩) (.string ⟨#[]⟩) (.string ⟨#[]⟩) (.slice none 0 0) (.slice none 0 0) (.string ⟨#[]⟩)
          have c0 := (row_of P7.1 0 _ rfl).1; have c1 := (row_of P7.1 1 _ rfl).1; have c2 := (row_of P7.1 2 _ rfl).1; have c3 := (row_of P7.1 3 _ rfl).1; have c4 := (row_of P7.1 4 _ rfl).1; have c5 := (row_of P7.1 5 _ rfl).1; have c6 := (row_of P7.1 6 _ rfl).1
          have hbe := (H6.out).bl.grown P7.2 (H6.out).bl.size (fun j hj => by cases hj; exact Nat.le_refl _)
          generalize (((((((w6.setCell ⟨w.heap.size, 0, none⟩ (.string ⟨#[]⟩)).setCell ⟨w.heap.size, 1, none⟩ (.string ⟨#[]⟩)).setCell ⟨w.heap.size, 2, none⟩ (.string ⟨#[]⟩)).setCell ⟨w.heap.size, 3, none⟩ (.string ⟨#[]⟩)).setCell ⟨w.heap.size, 4, none⟩ (.slice none 0 0)).setCell ⟨w.heap.size, 5, none⟩ (.slice none 0 0)).setCell ⟨w.heap.size, 6, none⟩ (.string ⟨#[]⟩)) = we at *
          refine bodyPost_ret (v := .tuple #[.agg (tagCells noTag none none 0 0), .int .i64 61]) (by simp [results, Tryz.results166, go_sem, c0, c1, c2, c3, c4, c5, c6, tagCells, noTag, B]) rfl ?_
          rw [HE.out]
          exact ⟨rfl, hbe⟩
         | true =>
          have hxx : (lowL p == [120]) = true := by rw [lowL_x]; exact hpx
          cases hpr : privR left with
          | false =>
           have HE : Hid (tagF s = none) := hid (by rw [HF4.out, finalF_cons]; rw [if_pos hpx, if_neg (by rw [hpr]; simp)])
           rw [hpr] at PV
           clear hpx hpr
           go_wp2_with (first
            | (go_at_call 167; (with_reducible refine (LP.out _).mono ?_); rintro e6 w6 ⟨rfl, hb6⟩; have H6 := hid (HR.out.below hb6); have P6 := hid (PV.out w6 H6.out); clear hb6)
            | (go_at_call 218; (with_reducible refine P6.out.mono ?_); rintro e7 w7 ⟨rfl, hg7, ht7⟩; have H7 := hid (H6.out.frameP HC.out hg7); have z0 := row_of H7.out.1 0 _ rfl; have z1 := row_of H7.out.1 1 _ rfl; have z2 := row_of H7.out.1 2 _ rfl; have z3 := row_of H7.out.1 3 _ rfl; have z4 := row_of H7.out.1 4 _ rfl; have z5 := row_of H7.out.1 5 _ rfl; have z6 := row_of H7.out.1 6 _ rfl; clear hg7 ht7)
            | fail)
           have P7 := put7 (show RowAt w7 w.heap.size [.string ⟨#[]⟩, .string ⟨#[]⟩, .string ⟨#[]⟩, .string ⟨#[]⟩, .slice none 0 0, .slice none 0 0, .string ⟨#[]⟩] from (H7.out).1) (.string ⟨#[]⟩) (.string ⟨#[]⟩) (.string ⟨#[]⟩) (.string ⟨#[]⟩) (.slice none 0 0) (.slice none 0 0) (.string ⟨#[]⟩)
           have c0 := (row_of P7.1 0 _ rfl).1; have c1 := (row_of P7.1 1 _ rfl).1; have c2 := (row_of P7.1 2 _ rfl).1; have c3 := (row_of P7.1 3 _ rfl).1; have c4 := (row_of P7.1 4 _ rfl).1; have c5 := (row_of P7.1 5 _ rfl).1; have c6 := (row_of P7.1 6 _ rfl).1
           have hbe := (H7.out).2.1.grown P7.2 (H7.out).2.1.size (fun j hj => by cases hj; exact Nat.le_refl _)
           generalize (((((((w7.setCell ⟨w.heap.size, 0, none⟩ (.string ⟨#[]⟩)).setCell ⟨w.heap.size, 1, none⟩ (.string ⟨#[]⟩)).setCell ⟨w.heap.size, 2, none⟩ (.string ⟨#[]⟩)).setCell ⟨w.heap.size, 3, none⟩ (.string ⟨#[]⟩)).setCell ⟨w.heap.size, 4, none⟩ (.slice none 0 0)).setCell ⟨w.heap.size, 5, none⟩ (.slice none 0 0)).setCell ⟨w.heap.size, 6, none⟩ (.string ⟨#[]⟩)) = we at *
           refine bodyPost_ret (v := .tuple #[.agg (tagCells noTag none none 0 0), .int .i64 61]) (by simp [results, Tryz.results166, go_sem, c0, c1, c2, c3, c4, c5, c6, tagCells, noTag, B]) rfl ?_
           rw [HE.out]
           exact ⟨rfl, hbe⟩
          | true =>
           have HE : Hid (tagF s = some ⟨l, e, scr, reg, vars, exts, joinD (p :: left)⟩) := hid (by rw [HF4.out, finalF_cons]; rw [if_pos hpx, if_pos hpr])
           rw [hpr] at PV
           generalize joinD (p :: left) = pj at *
           clear hpx hpr
           go_wp2_with (first
            | (go_at_call 167; (with_reducible refine (LP.out _).mono ?_); rintro e6 w6 ⟨rfl, hb6⟩; have H6 := hid (HR.out.below hb6); have P6 := hid (PV.out w6 H6.out); clear hb6)
            | (go_at_call 218; (with_reducible refine P6.out.mono ?_); rintro e7 w7 ⟨rfl, hg7, ht7⟩; have H7 := hid (H6.out.frameP HC.out hg7); have HT7 := hid ht7; have z0 := row_of H7.out.1 0 _ rfl; have z1 := row_of H7.out.1 1 _ rfl; have z2 := row_of H7.out.1 2 _ rfl; have z3 := row_of H7.out.1 3 _ rfl; have z4 := row_of H7.out.1 4 _ rfl; have z5 := row_of H7.out.1 5 _ rfl; have z6 := row_of H7.out.1 6 _ rfl; have t0 := (row_of ht7 0 _ rfl).1; have y1 := (row_of ht7 1 _ rfl).1; have y2 := (row_of ht7 2 _ rfl).1; have y3 := (row_of ht7 3 _ rfl).1; have y4 := (row_of ht7 4 _ rfl).1; have y5 := (row_of ht7 5 _ rfl).1; have y6 := (row_of ht7 6 _ rfl).1; clear hg7 ht7)
            | fail)
           have P7 := put7 (show RowAt w7 w.heap.size [.string ⟨#[]⟩, .string ⟨#[]⟩, .string ⟨#[]⟩, .string ⟨#[]⟩, .slice none 0 0, .slice none 0 0, .string ⟨#[]⟩] from H7.out.1) (.string (B l)) (.string (B e)) (.string (B scr)) (.string (B reg)) (.slice a1 vars.length d1) (.slice a2 exts.length d2) (.string (B pj))
           have c0 := (row_of P7.1 0 _ rfl).1; have c1 := (row_of P7.1 1 _ rfl).1; have c2 := (row_of P7.1 2 _ rfl).1; have c3 := (row_of P7.1 3 _ rfl).1; have c4 := (row_of P7.1 4 _ rfl).1; have c5 := (row_of P7.1 5 _ rfl).1; have c6 := (row_of P7.1 6 _ rfl).1
           have hbe := (H7.out.2.1).grown P7.2 (H7.out.2.1).size (fun j hj => by cases hj; exact Nat.le_refl _)
           have o1 := own_kept (H7.out.2.2.1) P7.2 (by omega)
           have o2 := own_kept (H7.out.2.2.2) P7.2 (by omega)
           generalize (((((((w7.setCell ⟨w.heap.size, 0, none⟩ (.string (B l))).setCell ⟨w.heap.size, 1, none⟩ (.string (B e))).setCell ⟨w.heap.size, 2, none⟩ (.string (B scr))).setCell ⟨w.heap.size, 3, none⟩ (.string (B reg))).setCell ⟨w.heap.size, 4, none⟩ (.slice a1 vars.length d1)).setCell ⟨w.heap.size, 5, none⟩ (.slice a2 exts.length d2)).setCell ⟨w.heap.size, 6, none⟩ (.string (B pj))) = we at *
           refine bodyPost_ret (v := .tuple #[.agg (tagCells ⟨l, e, scr, reg, vars, exts, pj⟩ a1 a2 d1 d2), .int .i64 0]) (by simp [results, Tryz.results166, go_sem, c0, c1, c2, c3, c4, c5, c6, tagCells, B]) rfl ?_
           rw [HE.out]
           exact ⟨a1, a2, d1, d2, rfl, hbe, ownsRow_mono o1 (by omega), ownsRow_mono o2 (by omega), HR.out.ap⟩
end Go.Proofs.YtdhmpakhdhdebaaGreatDoor
