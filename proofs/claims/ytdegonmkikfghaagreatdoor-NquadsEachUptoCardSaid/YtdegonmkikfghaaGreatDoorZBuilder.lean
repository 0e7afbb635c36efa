/-
  strings.Builder's WriteString on a builder that the call has made itself: contract (the kit's own is not laid at these dumps: the loader refuses copyCheck's panic, which no such builder comes to). By an AI agent.
-/
import Derived.Test.YtdegonmkikfghaaGreatDoorZQuad0
import Derived.Test.YtdegonmkikfghaaGreatDoorProg
namespace Go.Proofs.YtdegonmkikfghaaGreatDoor
open Lib (hid)
open Go.RowKit
set_option maxRecDepth 100000
theorem builderSize : (Tryz.prog.info? 108).map (·.size) = some 2 := by kernel_rfl
theorem builderLies : liesAt Tryz.prog Tryz.prog.depth 108 (2 / Tryz.prog.cellsOf 108) 0 108 1 = true := by kernel_rfl
theorem copyCheck_used (b : Nat) (w : World) (h0 : w.cell? ⟨b, 0, none⟩ = some (.pointer (some ⟨b, 0, none⟩))) :
  Calls Tryz.prog 84 #[.pointer (some ⟨b, 0, none⟩)] w fun e w' => e = .returned (.tuple #[]) /\ w' = w := by
 obtain ⟨j, hj, _⟩ := Option.map_eq_some_iff.1 builderSize
 go_enter Tryz.func84, Tryz.ntmps84
 go_wp2
 rw [Lib.run_neq_ptr_same w _ Tryz.underlying106 hj]
 go_wp2
 go_end0
 exact ⟨rfl, rfl⟩
theorem copyCheck_fresh (b : Nat) (w : World) (h0 : w.cell? ⟨b, 0, none⟩ = some (.pointer none)) (hsh : w.shape? b = some (108, 2)) (hfz : w.frozen? ⟨b, 0, none⟩ = false) :
  Calls Tryz.prog 84 #[.pointer (some ⟨b, 0, none⟩)] w fun e w' => e = .returned (.tuple #[]) /\ w' = w.setCell ⟨b, 0, none⟩ (.pointer (some ⟨b, 0, none⟩)) := by
 obtain ⟨j, hj, hjs⟩ := Option.map_eq_some_iff.1 builderSize
 have to_ := Lib.run_to_unsafe (P := Tryz.prog) w ⟨b, 0, none⟩ Tryz.underlying106 Tryz.underlying163 hj (by rw [hjs]; decide) hsh (Nat.zero_lt_succ 1)
 have from_ := Lib.run_from_unsafe (P := Tryz.prog) w ⟨b, 0, none⟩ Tryz.underlying163 Tryz.underlying106 hj hsh builderLies
 have call_ : (callFunc 123 #[.pointer (some ⟨b, 0, none⟩)]).run Tryz.prog w = .ok (.value (.pointer (some ⟨b, 0, none⟩))) w := by
  rw [run_callFunc_extern Tryz.func123 (by kernel_rfl) (by kernel_rfl) (by kernel_rfl) (e := Extern.AbiNoEscape.same) (by kernel_rfl), Lib.run_noEscape]
  rfl
 clear hj hjs hsh
 go_enter Tryz.func84, Tryz.ntmps84
 go_wp2_with fail
 go_end0
 exact ⟨rfl, rfl⟩
theorem copyCheck_any (B_ b : Nat) (bs : List Value) (w : World) (h : Lib.IsBuilder 108 5 B_ b bs w) :
  Calls Tryz.prog 84 #[.pointer (some ⟨b, 0, none⟩)] w fun e w' => e = .returned (.tuple #[]) /\ Lib.BuilderAt 108 5 B_ b (.pointer (some ⟨b, 0, none⟩)) bs w' /\ Below B_ w w' := by
 rcases h with h | h
 ·refine (copyCheck_fresh b w h.cell0 h.shape h.frozen0).mono ?_
  rintro e w' ⟨he, rfl⟩
  exact ⟨he, h.used _, (Below.refl _ _).setCell h.1 _⟩
 ·refine (copyCheck_used b w h.cell0).mono ?_
  rintro e w' ⟨he, rfl⟩
  exact ⟨he, h, Below.refl _ _⟩
def BuildsB (w : World) (B_ b : Nat) (l : List UInt8) : Prop := Lib.IsBuilder 108 5 B_ b (l.map U8) w
theorem infoByte : (Tryz.prog.info? 5).map (fun i => (i.zero, i.size, i.bytes)) = some (some (.int .u8 0), 1, 1) := by kernel_rfl
theorem strCells_l (l : List UInt8) : Lib.strCells (B l) = l.map U8 := by simp [Lib.strCells, B, U8]
set_option maxHeartbeats 800000 in
theorem writeString_l (B_ b : Nat) (l m : List UInt8) (w : World) (h : BuildsB w B_ b l) (hlen : l.length + m.length <= 140737488355328) (hBw : B_ <= w.heap.size) :
  Calls Tryz.prog 55 #[.pointer (some ⟨b, 0, none⟩), .string (B m)] w fun e w' => e = .returned (.tuple #[.int .i64 m.length, .nilIface]) /\ BuildsB w' B_ b (l ++ m) /\ Below B_ w w' := by
 obtain ⟨i0, hi, hz0, hz1, hz2⟩ := info_parts infoByte
 have CC := hid (copyCheck_any B_ b (l.map U8) w h)
 clear h
 go_enter Tryz.func55, Tryz.ntmps55
 go_wp2_with (first | (go_at_call 84; refine CC.out.mono ?_; rintro e w1 ⟨rfl, ⟨hB, v, hbk, hown, hne⟩, hb1⟩; have c1 : w1.cell? ⟨b, 1, none⟩ = some v := (Lib.cell_of_heap hbk 1).trans rfl; have HBK := hid hbk; have HNE := hid hne; clear hbk hne) | (at_builtin; refine Lib.wpList_append_own_string _ rfl (.tmp 12) (.tmp 13) 25 9 rfl B_ 5 i0 Tryz.underlying25 Tryz.underlying9 hi hz0 hz1 hz2 _ _ _ rfl hown (B m) rfl ?c3 ?c4 ?c5 ?_))
 case c3 => have := B_size m; simp; unfold maxLen; omega
 case c4 => have := B_size m; simp; omega
 case c5 => have := hb1.size; omega
 intro v' w2 hown' hgrow _
 have hlt : b < w1.heap.size := World.block_lt_of_cell? _ _ c1
 have hb2 : w2.heap[b]? = some (.cells #[.pointer (some ⟨b, 0, none⟩), v] 108 (0, 0)) := by
  rw [hgrow.block b hlt (fun e => HNE.out e.symm)]
  exact HBK.out
 have d1 : w2.cell? ⟨b, 1, none⟩ = some v := (Lib.cell_of_heap hb2 1).trans rfl
 have f1 : w2.frozen? ⟨b, 1, none⟩ = false := Lib.frozen_of_heap hb2 1
 have hput : ∀ x, w2.ownsRow B_ 5 1 x ((l ++ m).map U8).length ((l ++ m).map U8) -> Lib.BuilderAt 108 5 B_ b (.pointer (some ⟨b, 0, none⟩)) ((l ++ m).map U8) (w2.setCell ⟨b, 1, none⟩ x) := fun x hx => Lib.BuilderAt.put hB hb2 hx (by decide)
 have hown2 : w2.ownsRow B_ 5 1 v' ((l ++ m).map U8).length ((l ++ m).map U8) := by
  rw [strCells_l] at hown'
  simpa using hown'
 have HP := hid (hput v' hown2)
 have hbw : Below B_ w (w2.setCell ⟨b, 1, none⟩ v') := (hb1.grown hgrow (by have := hb1.size; omega) (fun k hk => (hown.lt k hk).1)).setCell (p := ⟨b, 1, none⟩) hB _
 have HBW := hid hbw
 obtain ⟨ao, n', cap, hv'⟩ : ∃ ao n' cap, v' = .slice ao n' cap := by
  rcases hown2.2 with ⟨hv, _⟩ | ⟨g, cap, cur, hv, _⟩
  ·exact ⟨_, _, _, hv⟩
  ·exact ⟨_, _, _, hv⟩
 clear hown hown' hown2 hput hb2 hbw hgrow HBK HNE c1
 rw [hv'] at HP HBW ⊢
 clear hv'
 go_wp2_with fail
 go_ret2
 exact ⟨rfl, .inr HP.out, HBW.out⟩
end Go.Proofs.YtdegonmkikfghaaGreatDoor
namespace Go.Proofs.YtdegonmkikfghaaGreatDoor
open Lib (hid)
open Go.RowKit
set_option maxRecDepth 100000
theorem ownsRow_kind {w : World} {B : Nat} {e : TypeId} {v : Value} {n : Nat} {xs : List Value} (h : w.ownsRow B e 1 v n xs) : ∀ g, v.ownBlock = some g -> ∃ c fz, w.heap[g]? = some (.cells c e fz) :=
 Lib.ownsRowF_kind (World.ownsRowF_of h)
end Go.Proofs.YtdegonmkikfghaaGreatDoor
namespace Go.Proofs.YtdegonmkikfghaaGreatDoor
open Lib (hid)
open Go.RowKit
set_option maxRecDepth 100000
def BOwn (base : Nat) (v : Value) (l : List UInt8) (w : World) : Prop := w.ownsRow base 5 1 v l.length (l.map U8)
theorem BOwn.nil (base : Nat) (w : World) : BOwn base (.slice none 0 0) [] w := World.ownsRow_nil _ _ _ _
theorem BOwn.below {base : Nat} {v : Value} {l : List UInt8} {w w' : World} (h : BOwn base v l w) (hb : Below w.heap.size w w') : BOwn base v l w' := ownsRow_below h hb
theorem BOwn.slice {base : Nat} {v : Value} {l : List UInt8} {w : World} (h : BOwn base v l w) : ∃ a c, v = .slice a l.length c := by
 obtain ⟨a, c, rfl, _⟩ := ownsRow_at h
 exact ⟨a, c, rfl⟩
theorem BOwn.base {base : Nat} {v : Value} {l : List UInt8} {w : World} (h : BOwn base v l w) : ∀ k, v.ownBlock = some k -> base <= k /\ k < w.heap.size := fun k hk => ⟨(h.lt k hk).1, (h.lt k hk).2⟩
theorem BOwn.back {base : Nat} {v : Value} {l : List UInt8} {w : World} (h : BOwn base v l w) : (convert 25 9 v).run Tryz.prog w = .ok (.string (B l)) w :=
 bytes_back (P := Tryz.prog) 25 9 Tryz.underlying25 Tryz.underlying5 Tryz.underlying9 h
theorem BOwn.at {base : Nat} {a : Option Addr} {n c : Nat} {l : List UInt8} {w : World} (h : BOwn base (.slice a n c) l w) : At w a (l.map U8) := by
 obtain ⟨a', c', he, _, _, hat⟩ := ownsRow_at h
 cases he
 exact hat
theorem below_own {w wr w' : World} {base : Nat} {v : Value} {l : List UInt8} (hb : Below w.heap.size w wr) (h : BOwn base v l wr) (hg : wr.grownBy w' v.ownBlock) (hbase : w.heap.size <= base) : Below w.heap.size w w' :=
 hb.grown hg hb.size (fun k hk => Nat.le_trans hbase (h.lt k hk).1)
theorem rowAt_keep {w w' : World} {g : Nat} {vs : List Value} {r : Option Nat} (h : RowAt w g vs) (hg : w.grownBy w' r) (hne : ∀ k, r = some k -> k ≠ g) : RowAt w' g vs := fun j hj => by
 have hlt : g < w.heap.size := World.block_lt_of_cell? _ _ (h.cell hj)
 have e := hg.block g hlt (fun e => hne g e.symm rfl)
 refine ⟨?_, ?_⟩
 ·rw [World.cell?_of_block e]; exact h.cell hj
 ·have := h.free hj
  simp only [World.frozen?] at this ⊢
  rw [e]
  exact this
theorem rowAt_own {w w' : World} {g base : Nat} {vs : List Value} {v : Value} {l : List UInt8} (h : RowAt w g vs) (hv : BOwn base v l w) (hg : w.grownBy w' v.ownBlock) (hb : g < base) : RowAt w' g vs :=
 rowAt_keep h hg fun k hk => by have := (hv.lt k hk).1; omega
theorem rowAt_below {w w' : World} {g : Nat} {vs : List Value} (h : RowAt w g vs) (hb : Below w.heap.size w w') : RowAt w' g vs := fun j hj => by
 have hlt : g < w.heap.size := World.block_lt_of_cell? _ _ (h.cell hj)
 exact ⟨(hb.cell (p := ⟨g, j, none⟩) hlt).trans (h.cell hj), (hb.frozen (p := ⟨g, j, none⟩) hlt).trans (h.free hj)⟩
theorem wpList_app_bytes {ops : Array Oper} {rest : List Oper} {o : Oper} {a : Act} {w : World} {Q : Exit -> Act -> World -> Prop} (hgd : o.guard = none) (s x : Operand)
  (ho : o.op = .call { callee := .builtin .append, args := #[s, x], argTypes := #[25, 25] }) (base : Nat) (v : Value) (l m : List UInt8) (hs : a.eval s = v) (h : BOwn base v l w)
  (ad : Addr) (n c : Nat) (hx : a.eval x = .slice (some ad) n c) (hn : n = m.length) (hm : At w (some ad) (m.map U8)) (hlen : l.length + m.length <= 140737488355328) (hbase : base <= w.heap.size)
  (k : ∀ v' w', BOwn base v' (l ++ m) w' -> w.grownBy w' v.ownBlock -> wpList Tryz.prog ops Q rest (a.put o.dst v') w') : wpList Tryz.prog ops Q (o :: rest) a w := by
 obtain ⟨i0, hi, hz0, hz1, hz2⟩ := info_parts infoByte
 subst hn
 refine wpList_append_own (P := Tryz.prog) _ hgd s x 25 ho base 5 i0 (.int .u8 0) 1 1 Tryz.underlying25 hi hz0 hz1 hz2 rfl (by decide) v l.length (l.map U8) hs h ad m.length c (m.map U8) hx (by simp) ?_ ?_ (by unfold maxLen; omega) (by omega) hbase ?_
 ·intro j u hu
  obtain ⟨hj, rfl⟩ := List.getElem?_eq_some_iff.1 hu
  obtain ⟨b, o, he, hc⟩ := hm j hj
  cases he
  rw [addO]
  exact hc
 ·intro u hu
  obtain ⟨c, _, rfl⟩ := List.mem_map.1 hu
  rfl
 ·intro v' w' hown hg _
  refine k v' w' ?_ hg
  unfold BOwn
  rw [List.length_append, List.map_append]
  exact hown
end Go.Proofs.YtdegonmkikfghaaGreatDoor
