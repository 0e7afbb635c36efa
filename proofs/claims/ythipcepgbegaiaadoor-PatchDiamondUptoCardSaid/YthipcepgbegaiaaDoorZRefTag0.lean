/-
  The reference's Tag: the plain part, and what its reader holds. By an AI agent.
-/
import Derived.Test.YthipcepgbegaiaaDoorZGRef2
import Derived.Test.YthipcepgbegaiaaDoorZLower
import Derived.Deep.RegionLaw
import Derived.Deep.RegionHeld3
import Derived.Test.YthipcepgbegaiaaDoorZTag
namespace Go.Proofs.YthipcepgbegaiaaDoor
open Go.RowKit
set_option maxRecDepth 100000

/-- where the reference's reader and its tag lie -/
structure RC (w : World) (b tb k : Nat) : Prop where
  kb : k ≠ b
  kt : k ≠ tb
  tt : w.heap.size < tb
  bt : tb < b
  kl : k < b
/-- what they hold -/
structure RSt (w wx : World) (b tb k : Nat) (lv : Value) (left : List (List UInt8)) (l x sc rg : List UInt8) (vv ev : Value) (vars exts : List (List UInt8)) : Prop where
  view : ViewAt wx k lv left
  rd : RowAt wx b [lv]
  tg : RowAt wx tb [.string (B l), .string (B x), .string (B sc), .string (B rg), vv, ev, .string ⟨#[]⟩]
  ov : wx.ownsRow (b + 1) 9 1 vv vars.length (vars.map strV)
  oe : wx.ownsRow (b + 1) 9 1 ev exts.length (exts.map strV)
  ap : Apart vv ev
  zr : RowAt wx w.heap.size zeros7
  bl : Below w.heap.size w wx
section
variable {w wx wy : World} {b tb k : Nat} {lv : Value} {left : List (List UInt8)} {l x sc rg : List UInt8} {vv ev : Value} {vars exts : List (List UInt8)}
theorem RSt.lb (h : RSt w wx b tb k lv left l x sc rg vv ev vars exts) : b < wx.heap.size := World.block_lt_of_cell? _ _ (row_of h.rd 0 _ rfl).1
theorem RSt.lt (h : RSt w wx b tb k lv left l x sc rg vv ev vars exts) : tb < wx.heap.size := World.block_lt_of_cell? _ _ (row_of h.tg 0 _ rfl).1
theorem RSt.lz (h : RSt w wx b tb k lv left l x sc rg vv ev vars exts) : w.heap.size < wx.heap.size := World.block_lt_of_cell? _ _ (row_of h.zr 0 _ rfl).1
theorem RSt.below (h : RSt w wx b tb k lv left l x sc rg vv ev vars exts) (hb : Below wx.heap.size wx wy) : RSt w wy b tb k lv left l x sc rg vv ev vars exts :=
  ⟨h.view.below hb, h.rd.below hb h.lb, h.tg.below hb h.lt, ownsRow_below h.ov hb, ownsRow_below h.oe hb, h.ap, h.zr.below hb h.lz, h.bl.trans (hb.mono h.bl.size)⟩
theorem RSt.next (C : RC w b tb k) {lv' : Value} {left' : List (List UInt8)} (h : RSt w wx b tb k lv left l x sc rg vv ev vars exts) (hv : ViewAt wy k lv' left') (hr : RowAt wy b [lv']) (hg : wx.grownBy wy (some b)) : RSt w wy b tb k lv' left' l x sc rg vv ev vars exts :=
  ⟨hv, hr, h.tg.grown hg (by have := C.bt; simp; omega) h.lt, own_kept h.ov hg (Nat.lt_succ_self _), own_kept h.oe hg (Nat.lt_succ_self _), h.ap, h.zr.grown hg (by have := C.bt; have := C.tt; simp; omega) h.lz,
    h.bl.grown hg h.bl.size (fun j hj => by cases hj; have := C.bt; have := C.tt; omega)⟩
theorem RSt.script (C : RC w b tb k) (h : RSt w wx b tb k lv left l x sc rg vv ev vars exts) (p : List UInt8) : RSt w (wx.setCell ⟨tb, 2, none⟩ (.string (B p))) b tb k lv left l x p rg vv ev vars exts := by
  have hg := grownBy_set wx tb 2 (.string (B p))
  have h1 := C.bt
  have h2 := C.tt
  exact ⟨h.view.grown hg (by simpa using C.kt), h.rd.grown hg (by simp; omega) h.lb, h.tg.set (j := 2) (by simp) _, own_kept h.ov hg (by omega), own_kept h.oe hg (by omega), h.ap, h.zr.grown hg (by simp; omega) h.lz, h.bl.grown hg h.bl.size (fun j hj => by cases hj; omega)⟩
theorem RSt.region (C : RC w b tb k) (h : RSt w wx b tb k lv left l x sc rg vv ev vars exts) (p : List UInt8) : RSt w (wx.setCell ⟨tb, 3, none⟩ (.string (B p))) b tb k lv left l x sc p vv ev vars exts := by
  have hg := grownBy_set wx tb 3 (.string (B p))
  have h1 := C.bt
  have h2 := C.tt
  exact ⟨h.view.grown hg (by simpa using C.kt), h.rd.grown hg (by simp; omega) h.lb, h.tg.set (j := 3) (by simp) _, own_kept h.ov hg (by omega), own_kept h.oe hg (by omega), h.ap, h.zr.grown hg (by simp; omega) h.lz, h.bl.grown hg h.bl.size (fun j hj => by cases hj; omega)⟩
/-- where the reader has failed at the language -/
theorem RSt.frame0 (C : RC w b tb k) (h : RSt w wx b tb k lv left l x sc rg vv ev vars exts) (hg : FrameX wx wy [b, tb]) : RowAt wy w.heap.size zeros7 ∧ Below w.heap.size w wy := by
  have h1 := C.bt
  have h2 := C.tt
  exact ⟨hg.row h.zr h.lz (by simp; omega), FrameX.below h.bl hg h.bl.size (fun c hc => by simp at hc; omega)⟩
theorem RSt.lang (C : RC w b tb k) {lv' : Value} {left' : List (List UInt8)} {l' x' : List UInt8} (h : RSt w wx b tb k lv left l x sc rg vv ev vars exts) (hg : FrameX wx wy [b, tb]) (hv : ViewAt wy k lv' left') (hr : RowAt wy b [lv'])
    (ht : RowAt wy tb [.string (B l'), .string (B x'), .string (B sc), .string (B rg), vv, ev, .string ⟨#[]⟩]) : RSt w wy b tb k lv' left' l' x' sc rg vv ev vars exts := by
  have h1 := C.bt
  have h2 := C.tt
  obtain ⟨hz, hb⟩ := h.frame0 C hg
  exact ⟨hv, hr, ht, hg.own h.ov (fun g hgx => by have := (h.ov.lt g hgx).1; simp; omega), hg.own h.oe (fun g hgx => by have := (h.oe.lt g hgx).1; simp; omega), h.ap, hz, hb⟩
/-- where the reader has failed at an extension -/
theorem RSt.frameE (C : RC w b tb k) (h : RSt w wx b tb k lv left l x sc rg vv ev vars exts) (hg : FrameX wx wy (b :: tb :: ev.ownBlock.toList)) : RowAt wy w.heap.size zeros7 ∧ Below w.heap.size w wy := by
  have h1 := C.bt
  have h2 := C.tt
  have hm : ∀ c, c ∈ b :: tb :: ev.ownBlock.toList → w.heap.size < c := fun c hc => by
    rcases List.mem_cons.1 hc with rfl | hc
    · omega
    · rcases List.mem_cons.1 hc with rfl | hc
      · exact h2
      · have := (h.oe.lt c (by simpa using hc)).1; omega
  exact ⟨hg.row h.zr h.lz (fun hc => Nat.lt_irrefl _ (hm _ hc)), FrameX.below h.bl hg h.bl.size (fun c hc => Nat.le_of_lt (hm c hc))⟩
theorem RSt.ext (C : RC w b tb k) {lv' ev' : Value} {left' : List (List UInt8)} {p : List UInt8} (h : RSt w wx b tb k lv left l x sc rg vv ev vars exts) (hg : FrameX wx wy (b :: tb :: ev.ownBlock.toList)) (hv : ViewAt wy k lv' left') (hr : RowAt wy b [lv'])
    (ht : RowAt wy tb [.string (B l), .string (B x), .string (B sc), .string (B rg), vv, ev', .string ⟨#[]⟩]) (ho : wy.ownsRow (b + 1) 9 1 ev' (exts ++ [p]).length ((exts ++ [p]).map strV))
    (hb : ev'.ownBlock = ev.ownBlock ∨ ∃ g, wx.heap.size ≤ g ∧ ev'.ownBlock = some g) : RSt w wy b tb k lv' left' l x sc rg vv ev' vars (exts ++ [p]) := by
  have h1 := C.bt
  have h2 := C.tt
  obtain ⟨hz, hbl⟩ := h.frameE C hg
  refine ⟨hv, hr, ht, hg.own h.ov (fun g hgx => ?_), ho, ?_, hz, hbl⟩
  · have := (h.ov.lt g hgx).1
    intro hm
    rcases List.mem_cons.1 hm with rfl | hm
    · omega
    · rcases List.mem_cons.1 hm with rfl | hm
      · omega
      · exact h.ap g hgx (by simpa using hm)
  · intro g hgx he
    rcases hb with e | ⟨n, hn, e⟩
    · exact h.ap g hgx (e ▸ he)
    · rw [e] at he
      cases he
      have := (h.ov.lt _ hgx).2
      omega
end
end Go.Proofs.YthipcepgbegaiaaDoor
