/-
  The reference's reader: language: contract. By an AI agent.
  The reference's reader: private: contract. By an AI agent.
-/
import Derived.Test.YthipcepgbegaiaaDoorZGTag1
import Derived.Test.YthipcepgbegaiaaDoorZParts
import Derived.Test.YthipcepgbegaiaaDoorZGPlain
import Derived.Test.YthipcepgbegaiaaDoorProg
import Derived.Deep.QuietTactic
import Derived.BigQuiet
import Derived.Test.YthipcepgbegaiaaDoorZKeep
import Derived.Test.YthipcepgbegaiaaDoorZTagRest
namespace Go.Proofs.YthipcepgbegaiaaDoor
open Go.RowKit
set_option maxRecDepth 100000

/-- only these old blocks may have turned -/
structure FrameX (w w' : World) (bs : List Nat) : Prop where
  os : w'.os = w.os
  tape : w'.tape = w.tape
  output : w'.output = w.output
  size : w.heap.size ≤ w'.heap.size
  block : ∀ k, k < w.heap.size → k ∉ bs → w'.heap[k]? = w.heap[k]?
theorem FrameX.refl (w : World) (bs : List Nat) : FrameX w w bs := ⟨rfl, rfl, rfl, Nat.le_refl _, fun _ _ _ => rfl⟩
theorem FrameX.trans {w v u : World} {bs : List Nat} (h : FrameX w v bs) (h2 : FrameX v u bs) : FrameX w u bs :=
  ⟨h2.1.trans h.1, h2.2.trans h.2, h2.3.trans h.3, Nat.le_trans h.4 h2.4, fun k hk hn => (h2.5 k (Nat.lt_of_lt_of_le hk h.4) hn).trans (h.5 k hk hn)⟩
theorem FrameX.mono {w v : World} {bs cs : List Nat} (h : FrameX w v bs) (hs : ∀ b, b ∈ bs → b < w.heap.size → b ∈ cs) : FrameX w v cs := ⟨h.1, h.2, h.3, h.4, fun k hk hn => h.5 k hk (fun hb => hn (hs k hb hk))⟩
theorem FrameX.below {w v u : World} {bs : List Nat} {B0 : Nat} (hb : Below B0 w v) (h : FrameX v u bs) (hB : B0 ≤ v.heap.size) (hs : ∀ b, b ∈ bs → B0 ≤ b) : Below B0 w u :=
  hb.trans ⟨h.os, h.tape, h.output, h.size, fun k hk => h.block k (by omega) (fun hm => by have := hs k hm; omega)⟩
theorem FrameX.row {w v : World} {bs : List Nat} (h : FrameX w v bs) {g : Nat} {vs : List Value} (hR : RowAt w g vs) (hg : g < w.heap.size) (hn : g ∉ bs) : RowAt v g vs := fun j hj =>
  ⟨(World.cell?_of_block (a := ⟨g, j, none⟩) (h.block g hg hn)).trans (hR.cell hj), (World.frozen?_of_block (a := ⟨g, j, none⟩) (h.block g hg hn)).trans (hR.free hj)⟩
theorem FrameX.own {w v : World} {bs : List Nat} (h : FrameX w v bs) {base : Nat} {e : TypeId} {x : Value} {n : Nat} {xs : List Value} (ho : w.ownsRow base e 1 x n xs) (hn : ∀ g, x.ownBlock = some g → g ∉ bs) : v.ownsRow base e 1 x n xs := by
  refine ⟨ho.1, ?_⟩
  rcases ho.2 with hx | ⟨g, cap, cur, rfl, hb, hgg, rest⟩
  · exact .inl hx
  · refine .inr ⟨g, cap, cur, rfl, hb, ?_, rest⟩
    rw [h.block g (Array.getElem?_eq_some_iff.1 hgg).1 (hn g rfl)]
    exact hgg

end Go.Proofs.YthipcepgbegaiaaDoor

namespace Go.Proofs.YthipcepgbegaiaaDoor
open Go.RowKit
set_option maxRecDepth 100000

theorem ViewAt.at {w : World} {k o n cap : Nat} {xs : List (List UInt8)} (h : ViewAt w k (.slice (some ⟨k, o, none⟩) n cap) xs) : At w (some ⟨k, o, none⟩) (xs.map strV) := fun j hj => by
  obtain ⟨o', cap', he, _, hc⟩ := h
  injection he with h1 _ _
  injection h1 with h1
  injection h1 with _ h3
  subst h3
  refine ⟨k, o, rfl, ?_⟩
  rw [hc j (by simpa using hj)]
  simp

end Go.Proofs.YthipcepgbegaiaaDoor
