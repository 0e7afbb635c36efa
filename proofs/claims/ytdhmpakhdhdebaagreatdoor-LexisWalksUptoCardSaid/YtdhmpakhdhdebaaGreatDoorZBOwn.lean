/-
  Rows of bytes that a call makes for itself: append, as a text. By an AI agent.
-/
import Derived.Test.YtdhmpakhdhdebaaGreatDoorZBuilder
namespace Go.Proofs.YtdhmpakhdhdebaaGreatDoor
open Go.RowKit
set_option maxRecDepth 100000
def BOwn (base : Nat) (v : Value) (l : List UInt8) (w : World) : Prop := w.ownsRow base 5 1 v l.length (l.map U8)
theorem BOwn.nil (base : Nat) (w : World) : BOwn base (.slice none 0 0) [] w := World.ownsRow_nil _ _ _ _
theorem BOwn.below {base : Nat} {v : Value} {l : List UInt8} {w w' : World} (h : BOwn base v l w) (hb : Below w.heap.size w w') : BOwn base v l w' := ownsRow_below h hb
theorem BOwn.slice {base : Nat} {v : Value} {l : List UInt8} {w : World} (h : BOwn base v l w) : ∃ a c, v = .slice a l.length c := by
 obtain ⟨a, c, rfl, _⟩ := ownsRow_at h
 exact ⟨a, c, rfl⟩
theorem BOwn.base {base : Nat} {v : Value} {l : List UInt8} {w : World} (h : BOwn base v l w) : ∀ k, v.ownBlock = some k -> base <= k /\ k < w.heap.size := fun k hk => ⟨(h.lt k hk).1, (h.lt k hk).2⟩
theorem BOwn.back {base : Nat} {v : Value} {l : List UInt8} {w : World} (h : BOwn base v l w) : (convert 35 9 v).run Tryz.prog w = .ok (.string (B l)) w :=
 bytes_back (P := Tryz.prog) 35 9 Tryz.underlying35 Tryz.underlying5 Tryz.underlying9 h
theorem BOwn.at {base : Nat} {a : Option Addr} {n c : Nat} {l : List UInt8} {w : World} (h : BOwn base (.slice a n c) l w) : At w a (l.map U8) := by
 obtain ⟨a', c', he, _, _, hat⟩ := ownsRow_at h
 cases he
 exact hat
theorem below_own {w wr w' : World} {base : Nat} {v : Value} {l : List UInt8} (hb : Below w.heap.size w wr) (h : BOwn base v l wr) (hg : wr.grownBy w' v.ownBlock) (hbase : w.heap.size <= base) : Below w.heap.size w w' :=
 hb.grown hg hb.size (fun k hk => Nat.le_trans hbase (h.lt k hk).1)
theorem rowAt_keep {w w' : World} {g : Nat} {vs : List Value} {r : Option Nat} (h : RowAt w g vs) (hg : w.grownBy w' r) (hne : ∀ k, r = some k -> k ≠ g) : RowAt w' g vs := fun j hj => by
 have hlt : g < w.heap.size := World.block_lt_of_cell? _ _ (h.cell hj)
 have e := hg.block g hlt (fun e => hne g e.symm rfl)
 refine ⟨?_, ?_⟩
 ·rw [World.cell?_of_block e]; exact h.cell hj
 ·have := h.free hj
  simp only [World.frozen?] at this ⊢
  rw [e]
  exact this
theorem rowAt_own {w w' : World} {g base : Nat} {vs : List Value} {v : Value} {l : List UInt8} (h : RowAt w g vs) (hv : BOwn base v l w) (hg : w.grownBy w' v.ownBlock) (hb : g < base) : RowAt w' g vs :=
 rowAt_keep h hg fun k hk => by have := (hv.lt k hk).1; omega
theorem rowAt_below {w w' : World} {g : Nat} {vs : List Value} (h : RowAt w g vs) (hb : Below w.heap.size w w') : RowAt w' g vs := fun j hj => by
 have hlt : g < w.heap.size := World.block_lt_of_cell? _ _ (h.cell hj)
 exact ⟨(hb.cell (p := ⟨g, j, none⟩) hlt).trans (h.cell hj), (hb.frozen (p := ⟨g, j, none⟩) hlt).trans (h.free hj)⟩
theorem wpList_app_bytes {ops : Array Oper} {rest : List Oper} {o : Oper} {a : Act} {w : World} {Q : Exit -> Act -> World -> Prop} (hgd : o.guard = none) (s x : Operand)
  (ho : o.op = .call { callee := .builtin .append, args := #[s, x], argTypes := #[35, 35] }) (base : Nat) (v : Value) (l m : List UInt8) (hs : a.eval s = v) (h : BOwn base v l w)
  (ad : Addr) (n c : Nat) (hx : a.eval x = .slice (some ad) n c) (hn : n = m.length) (hm : At w (some ad) (m.map U8)) (hlen : l.length + m.length <= 140737488355328) (hbase : base <= w.heap.size)
  (k : ∀ v' w', BOwn base v' (l ++ m) w' -> w.grownBy w' v.ownBlock -> wpList Tryz.prog ops Q rest (a.put o.dst v') w') : wpList Tryz.prog ops Q (o :: rest) a w := by
 obtain ⟨i0, hi, hz0, hz1, hz2⟩ := info_parts infoByte
 subst hn
 refine wpList_append_own (P := Tryz.prog) _ hgd s x 35 ho base 5 i0 (.int .u8 0) 1 1 Tryz.underlying35 hi hz0 hz1 hz2 rfl (by decide) v l.length (l.map U8) hs h ad m.length c (m.map U8) hx (by simp) ?_ ?_ (by unfold maxLen; omega) (by omega) hbase ?_
 ·intro j u hu
  obtain ⟨hj, rfl⟩ := List.getElem?_eq_some_iff.1 hu
  obtain ⟨b, o, he, hc⟩ := hm j hj
  cases he
  rw [addO]
  exact hc
 ·intro u hu
  obtain ⟨c, _, rfl⟩ := List.mem_map.1 hu
  rfl
 ·intro v' w' hown hg _
  refine k v' w' ?_ hg
  unfold BOwn
  rw [List.length_append, List.map_append]
  exact hown
end Go.Proofs.YtdhmpakhdhdebaaGreatDoor
