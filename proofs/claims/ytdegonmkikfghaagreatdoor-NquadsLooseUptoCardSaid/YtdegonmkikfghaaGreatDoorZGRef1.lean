/-
  The small tests of the reference's tag reader: contracts. By an AI agent.
  The reference's both, variant: contracts. By an AI agent.
-/
import Derived.Test.YtdegonmkikfghaaGreatDoorZGTag1
import Derived.Test.YtdegonmkikfghaaGreatDoorZLower
import Derived.Test.YtdegonmkikfghaaGreatDoorZGPlain
import Derived.Test.YtdegonmkikfghaaGreatDoorProg
import Derived.Deep.QuietTactic
import Derived.BigQuiet
import Derived.Test.YtdegonmkikfghaaGreatDoorZKeep
import Derived.Deep.RegionLaw
import Derived.Deep.RegionHeld3
import Derived.Test.YtdegonmkikfghaaGreatDoorZTagCells
namespace Go.Proofs.YtdegonmkikfghaaGreatDoor
open Go.RowKit
set_option maxRecDepth 100000
theorem alphaC_iff (c : UInt8) : alphaC c = true ↔ (97 <= (c.toNat : Int) /\ (c.toNat : Int) <= 122) \/ (65 <= (c.toNat : Int) /\ (c.toNat : Int) <= 90) := by
 unfold alphaC; simp; omega
theorem digC_iff (c : UInt8) : digC c = true ↔ 48 <= (c.toNat : Int) /\ (c.toNat : Int) <= 57 := by
 unfold digC; simp; omega
end Go.Proofs.YtdegonmkikfghaaGreatDoor
namespace Go.Proofs.YtdegonmkikfghaaGreatDoor
open Go.RowKit
set_option maxRecDepth 100000
end Go.Proofs.YtdegonmkikfghaaGreatDoor
namespace Go.Proofs.YtdegonmkikfghaaGreatDoor
open Go.RowKit
set_option maxRecDepth 100000
structure FrameX (w w' : World) (bs : List Nat) : Prop where
 os : w'.os = w.os
 tape : w'.tape = w.tape
 output : w'.output = w.output
 size : w.heap.size <= w'.heap.size
 block : ∀ k, k < w.heap.size -> k ∉ bs -> w'.heap[k]? = w.heap[k]?
theorem FrameX.refl (w : World) (bs : List Nat) : FrameX w w bs := ⟨rfl, rfl, rfl, Nat.le_refl _, fun _ _ _ => rfl⟩
theorem FrameX.trans {w v u : World} {bs : List Nat} (h : FrameX w v bs) (h2 : FrameX v u bs) : FrameX w u bs :=
 ⟨h2.1.trans h.1, h2.2.trans h.2, h2.3.trans h.3, Nat.le_trans h.4 h2.4, fun k hk hn => (h2.5 k (Nat.lt_of_lt_of_le hk h.4) hn).trans (h.5 k hk hn)⟩
theorem FrameX.step {w v u : World} {row : Option Nat} {bs : List Nat} (h : FrameX w v bs) (h2 : v.grownBy u row) (hr : ∀ k, row = some k -> w.heap.size <= k \/ k ∈ bs) : FrameX w u bs :=
 ⟨h2.1.trans h.1, h2.2.trans h.2, h2.3.trans h.3, Nat.le_trans h.4 h2.4, fun k hk hn => (h2.5 k (Nat.lt_of_lt_of_le hk h.4) (fun e => by
   rcases hr k e.symm with h | h
   · omega
   · exact hn h)).trans (h.5 k hk hn)⟩
theorem FrameX.mono {w v : World} {bs cs : List Nat} (h : FrameX w v bs) (hs : ∀ b, b ∈ bs -> b < w.heap.size -> b ∈ cs) : FrameX w v cs := ⟨h.1, h.2, h.3, h.4, fun k hk hn => h.5 k hk (fun hb => hn (hs k hb hk))⟩
theorem FrameX.below {w v u : World} {bs : List Nat} {B0 : Nat} (hb : Below B0 w v) (h : FrameX v u bs) (hB : B0 <= v.heap.size) (hs : ∀ b, b ∈ bs -> B0 <= b) : Below B0 w u :=
 hb.trans ⟨h.os, h.tape, h.output, h.size, fun k hk => h.block k (by omega) (fun hm => by have := hs k hm; omega)⟩
theorem FrameX.row {w v : World} {bs : List Nat} (h : FrameX w v bs) {g : Nat} {vs : List Value} (hR : RowAt w g vs) (hg : g < w.heap.size) (hn : g ∉ bs) : RowAt v g vs := fun j hj =>
 ⟨(World.cell?_of_block (a := ⟨g, j, none⟩) (h.block g hg hn)).trans (hR.cell hj), (World.frozen?_of_block (a := ⟨g, j, none⟩) (h.block g hg hn)).trans (hR.free hj)⟩
theorem FrameX.own {w v : World} {bs : List Nat} (h : FrameX w v bs) {base : Nat} {e : TypeId} {x : Value} {n : Nat} {xs : List Value} (ho : w.ownsRow base e 1 x n xs) (hn : ∀ g, x.ownBlock = some g -> g ∉ bs) : v.ownsRow base e 1 x n xs := by
 refine ⟨ho.1, ?_⟩
 rcases ho.2 with hx | ⟨g, cap, cur, rfl, hb, hgg, rest⟩
 · exact .inl hx
 · refine .inr ⟨g, cap, cur, rfl, hb, ?_, rest⟩
   rw [h.block g (Array.getElem?_eq_some_iff.1 hgg).1 (hn g rfl)]
   exact hgg
end Go.Proofs.YtdegonmkikfghaaGreatDoor
namespace Go.Proofs.YtdegonmkikfghaaGreatDoor
open Go.RowKit
set_option maxRecDepth 100000
def privR (ps : List (List UInt8)) : Bool := !(ps == []) && ps.all fun q => madeB q 1 8 false
theorem ViewAt.at {w : World} {k o n cap : Nat} {xs : List (List UInt8)} (h : ViewAt w k (.slice (some ⟨k, o, none⟩) n cap) xs) : At w (some ⟨k, o, none⟩) (xs.map strV) := fun j hj => by
 obtain ⟨o', cap', he, _, hc⟩ := h
 injection he with h1 _ _
 injection h1 with h1
 injection h1 with _ h3
 subst h3
 refine ⟨k, o, rfl, ?_⟩
 rw [hc j (by simpa using hj)]
 simp
end Go.Proofs.YtdegonmkikfghaaGreatDoor
namespace Go.Proofs.YtdegonmkikfghaaGreatDoor
open Go.RowKit
set_option maxRecDepth 100000
def dupX (exts : List (List UInt8)) (p : List UInt8) : Bool := exts.any fun x => lowL (x.take 1) == lowL p
end Go.Proofs.YtdegonmkikfghaaGreatDoor
namespace Go.Proofs.YtdegonmkikfghaaGreatDoor
open Go.RowKit
set_option maxRecDepth 100000
theorem lowB_x (c : UInt8) : lowB c = 120 ↔ (c = 120 \/ c = 88) := by
 unfold lowB
 rw [<- UInt8.toNat_inj, <- UInt8.toNat_inj, <- UInt8.toNat_inj]
 have := c.toNat_lt
 split
 · rw [UInt8.toNat_add]
   simp
   omega
 · simp
   omega
theorem lowL_x (p : List UInt8) : (lowL p == [120]) = privB p := by
 rw [Bool.eq_iff_iff]
 unfold privB
 match p with
 | [] => simp [lowL]
 | [c] => simp [lowL, lowB_x]
 | c :: d :: r => simp [lowL]
def SeenOK (low exts : List (List UInt8)) : Prop := ∀ p : List UInt8, p.length = 1 -> low.contains (lowL p) = dupX exts p
theorem SeenOK.step {low exts : List (List UInt8)} (h : SeenOK low exts) {p : List UInt8} (hp : p.length = 1) (m : List (List UInt8)) : SeenOK (low ++ [lowL p]) (exts ++ [joinD (p :: m)]) := by
 intro q hq
 have e : (joinD (p :: m)).take 1 = p := by rw [joinD_flat, <- hp, List.take_left]
 have h1 : dupX (exts ++ [joinD (p :: m)]) q = (dupX exts q || (lowL p == lowL q)) := by
   unfold dupX
   rw [List.any_append]
   simp [e]
 rw [h1, <- h q hq, Bool.eq_iff_iff, List.contains_iff_mem, Bool.or_eq_true, List.contains_iff_mem, List.mem_append, List.mem_singleton, beq_iff_eq]
 exact or_congr Iff.rfl eq_comm
def finalF : Option (TagL × List (List UInt8)) -> Option TagL
 | none => none
 | some (t, []) => some t
 | some (t, p :: r) => if privB p = true then (if privR r = true then some { t with priv := joinD (p :: r) } else none) else none
theorem finalF_cons (t : TagL) (p : List UInt8) (r : List (List UInt8)) : finalF (some (t, p :: r)) = if privB p = true then (if privR r = true then some { t with priv := joinD (p :: r) } else none) else none := rfl
theorem tagTail_all : ∀ (r : List (List UInt8)), (r.all fun q => madeB q 1 8 false) = true -> tagTail 1 r = (r, [])
 | [], _ => rfl
 | p :: r, h => by
   rw [List.all_cons, Bool.and_eq_true] at h
   rw [tagTail_yes h.1, tagTail_all r h.2]
theorem tagTail_part : ∀ (r : List (List UInt8)), (r.all fun q => madeB q 1 8 false) = false -> (tagTail 1 r).2 ≠ []
 | [], h => by cases h
 | p :: r, h => by
   cases hm : madeB p 1 8 false with
   | false => rw [tagTail_no hm]; simp
   | true =>
     rw [List.all_cons, hm, Bool.true_and] at h
     rw [tagTail_yes hm]
     exact tagTail_part r h
theorem tagP_final (ps : List (List UInt8)) : tagP ps = finalF (frontF ps) := by
 unfold tagP
 rcases frontF ps with _ | ⟨t, r⟩
 · rfl
 · rcases r with _ | ⟨p, r⟩
   · rfl
   · simp only [finalF]
     split
     · cases ha : r.all fun q => madeB q 1 8 false with
       | true =>
         rw [tagTail_all r ha]
         rcases r with _ | ⟨q, r⟩
         · simp [privR]
         · have hp : privR (q :: r) = true := by
             unfold privR
             rw [ha]
             rfl
           simp [hp]
       | false =>
         have h2 := tagTail_part r ha
         have hp : privR r = false := by unfold privR; rw [ha, Bool.and_false]
         rw [hp]
         simp [h2]
     · rfl
structure RC (w : World) (b tb k : Nat) : Prop where
 kb : k ≠ b
 kt : k ≠ tb
 tt : w.heap.size < tb
 bt : tb < b
 kl : k < b
structure RSt (w wx : World) (b tb k : Nat) (lv : Value) (left : List (List UInt8)) (l x sc rg : List UInt8) (vv ev : Value) (vars exts : List (List UInt8)) : Prop where
 view : ViewAt wx k lv left
 rd : RowAt wx b [lv]
 tg : RowAt wx tb [.string (B l), .string (B x), .string (B sc), .string (B rg), vv, ev, .string ⟨#[]⟩]
 ov : wx.ownsRow (b + 1) 9 1 vv vars.length (vars.map strV)
 oe : wx.ownsRow (b + 1) 9 1 ev exts.length (exts.map strV)
 ap : Apart vv ev
 zr : RowAt wx w.heap.size zeros7
 bl : Below w.heap.size w wx
section
variable {w wx wy : World} {b tb k : Nat} {lv : Value} {left : List (List UInt8)} {l x sc rg : List UInt8} {vv ev : Value} {vars exts : List (List UInt8)}
theorem RSt.lb (h : RSt w wx b tb k lv left l x sc rg vv ev vars exts) : b < wx.heap.size := World.block_lt_of_cell? _ _ (row_of h.rd 0 _ rfl).1
theorem RSt.lt (h : RSt w wx b tb k lv left l x sc rg vv ev vars exts) : tb < wx.heap.size := World.block_lt_of_cell? _ _ (row_of h.tg 0 _ rfl).1
theorem RSt.lz (h : RSt w wx b tb k lv left l x sc rg vv ev vars exts) : w.heap.size < wx.heap.size := World.block_lt_of_cell? _ _ (row_of h.zr 0 _ rfl).1
theorem RSt.below (h : RSt w wx b tb k lv left l x sc rg vv ev vars exts) (hb : Below wx.heap.size wx wy) : RSt w wy b tb k lv left l x sc rg vv ev vars exts :=
 ⟨h.view.below hb, h.rd.below hb h.lb, h.tg.below hb h.lt, ownsRow_below h.ov hb, ownsRow_below h.oe hb, h.ap, h.zr.below hb h.lz, h.bl.trans (hb.mono h.bl.size)⟩
theorem RSt.next (C : RC w b tb k) {lv' : Value} {left' : List (List UInt8)} (h : RSt w wx b tb k lv left l x sc rg vv ev vars exts) (hv : ViewAt wy k lv' left') (hr : RowAt wy b [lv']) (hg : wx.grownBy wy (some b)) : RSt w wy b tb k lv' left' l x sc rg vv ev vars exts :=
 ⟨hv, hr, h.tg.grown hg (by have := C.bt; simp; omega) h.lt, own_kept h.ov hg (Nat.lt_succ_self _), own_kept h.oe hg (Nat.lt_succ_self _), h.ap, h.zr.grown hg (by have := C.bt; have := C.tt; simp; omega) h.lz,
   h.bl.grown hg h.bl.size (fun j hj => by cases hj; have := C.bt; have := C.tt; omega)⟩
theorem RSt.script (C : RC w b tb k) (h : RSt w wx b tb k lv left l x sc rg vv ev vars exts) (p : List UInt8) : RSt w (wx.setCell ⟨tb, 2, none⟩ (.string (B p))) b tb k lv left l x p rg vv ev vars exts := by
 have hg := grownBy_set wx tb 2 (.string (B p))
 have h1 := C.bt
 have h2 := C.tt
 exact ⟨h.view.grown hg (by simpa using C.kt), h.rd.grown hg (by simp; omega) h.lb, h.tg.set (j := 2) (by simp) _, own_kept h.ov hg (by omega), own_kept h.oe hg (by omega), h.ap, h.zr.grown hg (by simp; omega) h.lz, h.bl.grown hg h.bl.size (fun j hj => by cases hj; omega)⟩
theorem RSt.region (C : RC w b tb k) (h : RSt w wx b tb k lv left l x sc rg vv ev vars exts) (p : List UInt8) : RSt w (wx.setCell ⟨tb, 3, none⟩ (.string (B p))) b tb k lv left l x sc p vv ev vars exts := by
 have hg := grownBy_set wx tb 3 (.string (B p))
 have h1 := C.bt
 have h2 := C.tt
 exact ⟨h.view.grown hg (by simpa using C.kt), h.rd.grown hg (by simp; omega) h.lb, h.tg.set (j := 3) (by simp) _, own_kept h.ov hg (by omega), own_kept h.oe hg (by omega), h.ap, h.zr.grown hg (by simp; omega) h.lz, h.bl.grown hg h.bl.size (fun j hj => by cases hj; omega)⟩
theorem RSt.frame0 (C : RC w b tb k) (h : RSt w wx b tb k lv left l x sc rg vv ev vars exts) (hg : FrameX wx wy [b, tb]) : RowAt wy w.heap.size zeros7 /\ Below w.heap.size w wy := by
 have h1 := C.bt
 have h2 := C.tt
 exact ⟨hg.row h.zr h.lz (by simp; omega), FrameX.below h.bl hg h.bl.size (fun c hc => by simp at hc; omega)⟩
theorem RSt.lang (C : RC w b tb k) {lv' : Value} {left' : List (List UInt8)} {l' x' : List UInt8} (h : RSt w wx b tb k lv left l x sc rg vv ev vars exts) (hg : FrameX wx wy [b, tb]) (hv : ViewAt wy k lv' left') (hr : RowAt wy b [lv'])
   (ht : RowAt wy tb [.string (B l'), .string (B x'), .string (B sc), .string (B rg), vv, ev, .string ⟨#[]⟩]) : RSt w wy b tb k lv' left' l' x' sc rg vv ev vars exts := by
 have h1 := C.bt
 have h2 := C.tt
 obtain ⟨hz, hb⟩ := h.frame0 C hg
 exact ⟨hv, hr, ht, hg.own h.ov (fun g hgx => by have := (h.ov.lt g hgx).1; simp; omega), hg.own h.oe (fun g hgx => by have := (h.oe.lt g hgx).1; simp; omega), h.ap, hz, hb⟩
theorem RSt.frameE (C : RC w b tb k) (h : RSt w wx b tb k lv left l x sc rg vv ev vars exts) (hg : FrameX wx wy (b :: tb :: ev.ownBlock.toList)) : RowAt wy w.heap.size zeros7 /\ Below w.heap.size w wy := by
 have h1 := C.bt
 have h2 := C.tt
 have hm : ∀ c, c ∈ b :: tb :: ev.ownBlock.toList -> w.heap.size < c := fun c hc => by
   rcases List.mem_cons.1 hc with rfl | hc
   · omega
   · rcases List.mem_cons.1 hc with rfl | hc
     · exact h2
     · have := (h.oe.lt c (by simpa using hc)).1; omega
 exact ⟨hg.row h.zr h.lz (fun hc => Nat.lt_irrefl _ (hm _ hc)), FrameX.below h.bl hg h.bl.size (fun c hc => Nat.le_of_lt (hm c hc))⟩
theorem RSt.ext (C : RC w b tb k) {lv' ev' : Value} {left' : List (List UInt8)} {p : List UInt8} (h : RSt w wx b tb k lv left l x sc rg vv ev vars exts) (hg : FrameX wx wy (b :: tb :: ev.ownBlock.toList)) (hv : ViewAt wy k lv' left') (hr : RowAt wy b [lv'])
   (ht : RowAt wy tb [.string (B l), .string (B x), .string (B sc), .string (B rg), vv, ev', .string ⟨#[]⟩]) (ho : wy.ownsRow (b + 1) 9 1 ev' (exts ++ [p]).length ((exts ++ [p]).map strV))
   (hb : ev'.ownBlock = ev.ownBlock \/ ∃ g, wx.heap.size <= g /\ ev'.ownBlock = some g) : RSt w wy b tb k lv' left' l x sc rg vv ev' vars (exts ++ [p]) := by
 have h1 := C.bt
 have h2 := C.tt
 obtain ⟨hz, hbl⟩ := h.frameE C hg
 refine ⟨hv, hr, ht, hg.own h.ov (fun g hgx => ?_), ho, ?_, hz, hbl⟩
 · have := (h.ov.lt g hgx).1
   intro hm
   rcases List.mem_cons.1 hm with rfl | hm
   · omega
   · rcases List.mem_cons.1 hm with rfl | hm
     · omega
     · exact h.ap g hgx (by simpa using hm)
 · intro g hgx he
   rcases hb with e | ⟨n, hn, e⟩
   · exact h.ap g hgx (e ▸ he)
   · rw [e] at he
     cases he
     have := (h.ov.lt _ hgx).2
     omega
end
end Go.Proofs.YtdegonmkikfghaaGreatDoor
