/-
  term.Compare, term.CompareQuads once more: what lies behind the call is the world, draws on, with blocks behind. By an AI agent.
-/
import Derived.Test.YtmnigckpejcaeaaGreatDoorZCmp
import Derived.Lib.QuietBelow
import Derived.Sort.Grow
import Derived.Shelf.SlSortCmp.WholeK
import Derived.Test.YtmnigckpejcaeaaGreatDoorZApp
import Derived.Test.YtmnigckpejcaeaaGreatDoorZSort0
import Derived.Shelf.SlicesE.Clone
import Derived.Test.YtmnigckpejcaeaaGreatDoorProg
import Derived.Test.YtmnigckpejcaeaaGreatDoorZLoadQ
import Derived.Shelf.SlSortCmp.NoneTotal
import Derived.WalkSpells
namespace Go.Proofs.YtmnigckpejcaeaaGreatDoor
open Go.RowKit
set_option maxRecDepth 100000
theorem grown_of {w w' : World} (h : Below w.heap.size w w') (hd : w.drawn <= w'.drawn) : ∃ q os, w' = Go.Sort.grow (w.drewN q) os := by
 obtain ⟨p, hp⟩ := Go.regrown_of_below h
 have e : w'.drawn = p.d := by rw [hp]; rfl
 refine ⟨p.d - w.drawn, p.os, ?_⟩
 rw [hp]
 have : w.drewN (p.d - w.drawn) = Go.redrawn w p.d := by
   unfold World.drewN Go.redrawn
   rw [show w.drawn + (p.d - w.drawn) = p.d by omega]
 rw [this]
set_option maxHeartbeats 1000000 in
theorem compare_d (a b : TermL) (w : World) : Calls Tryz.prog 96 #[.agg (termC a).toArray, .agg (termC b).toArray] w fun e w' => e = .returned (.int .i64 (cmpT a b)) /\ Below w.heap.size w w' /\ w.drawn <= w'.drawn := by
 obtain ⟨k, tx, ty, la⟩ := a
 obtain ⟨k2, tx2, ty2, la2⟩ := b
 have BA : ∀ o1 o2, Below w.heap.size w ((w.alloc o1).alloc o2) := fun o1 o2 => ((Below.refl _ _).alloc (Nat.le_refl _) _).alloc (by simp) _
 have HB := Lib.hid BA
 clear BA
 have HE : Hid (cmpT ⟨k, tx, ty, la⟩ ⟨k2, tx2, ty2, la2⟩ = orI (Lib.compareInt k k2) (orI (Lib.compareBytes tx tx2) (orI (Lib.compareBytes ty ty2) (Lib.compareBytes la la2)))) := Lib.hid rfl
 have OR := Lib.hid (fun (W : World) => orInt_l (Lib.compareInt k k2) (Lib.compareBytes tx tx2) (Lib.compareBytes ty ty2) (Lib.compareBytes la la2) (w.heap.size + 1 + 1) W)
 unfold termC
 simp only
 go_enter Tryz.func96, Tryz.ntmps96
 go_wp2_with fail
 refine region_still 20 (by kernel_rfl) (by kernel_rfl) ?_
 simp only [List.take_succ_cons, List.take_zero, List.drop_succ_cons, List.drop_zero]
 repeat (first | still_step | still_call (Tryz.cmp_Compare_int _ _ _) | still_call (strCmp_l _ _ _))
 refine wpStill_nil ?_
 go_wp2_with fail
 (with_reducible refine (OR.out _ ?c0 ?c1 ?c2 ?c3).mono ?_)
 case c0 => go_simp
 case c1 => go_simp
 case c2 => go_simp
 case c3 => go_simp
 rintro e w4 ⟨rfl, rfl⟩
 go_wp2_with fail
 go_ret
 exact ⟨ret_i64 HE.out.symm, (((((Below.refl _ _).alloc (Nat.le_refl _) _).alloc (by simp) _).trans ((below_drewN _ 1).mono (by simp; omega))).alloc (by simp; omega) _), by simp []⟩
theorem compare_dc (x y : TermL) (W : World) : Calls Tryz.prog 96 #[.agg #[.int .i64 x.kind, .string (B x.text), .string (B x.type), .string (B x.lang)], .agg #[.int .i64 y.kind, .string (B y.text), .string (B y.type), .string (B y.lang)]] W fun e w' => e = .returned (.int .i64 (cmpT x y)) /\ Below W.heap.size W w' /\ W.drawn <= w'.drawn := compare_d x y W
set_option maxHeartbeats 2000000 in
theorem compareQuads_d (a b : QuadL) (w : World) : Calls Tryz.prog 61 #[.agg (quadC a).toArray, .agg (quadC b).toArray] w fun e w' => e = .returned (.int .i64 (cmpQ a b)) /\ Below w.heap.size w w' /\ w.drawn <= w'.drawn := by
 rw [quadC_cells, quadC_cells]
 have HE : Hid (cmpQ a b = orI (cmpT a.g b.g) (orI (cmpT a.s b.s) (orI (cmpT a.p b.p) (cmpT a.o b.o)))) := Lib.hid rfl
 have CT := Lib.hid (fun (x y : TermL) (W : World) => compare_dc x y W)
 have OR := Lib.hid (fun (g : Nat) (W : World) => orInt_l (cmpT a.g b.g) (cmpT a.s b.s) (cmpT a.p b.p) (cmpT a.o b.o) g W)
 obtain ⟨W, hW⟩ : ∃ W, (w.alloc (.cells #[.int .i64 a.s.kind, .string (B a.s.text), .string (B a.s.type), .string (B a.s.lang), .int .i64 a.p.kind, .string (B a.p.text), .string (B a.p.type), .string (B a.p.lang), .int .i64 a.o.kind, .string (B a.o.text), .string (B a.o.type), .string (B a.o.lang), .int .i64 a.g.kind, .string (B a.g.text), .string (B a.g.type), .string (B a.g.lang)] 56)).alloc (.cells #[.int .i64 b.s.kind, .string (B b.s.text), .string (B b.s.type), .string (B b.s.lang), .int .i64 b.p.kind, .string (B b.p.text), .string (B b.p.type), .string (B b.p.lang), .int .i64 b.o.kind, .string (B b.o.text), .string (B b.o.type), .string (B b.o.lang), .int .i64 b.g.kind, .string (B b.g.text), .string (B b.g.type), .string (B b.g.lang)] 56) = W := ⟨_, rfl⟩
 have SB : Hid (∀ w', Below W.heap.size W w' -> w'.cell? ⟨w.heap.size, 0, none⟩ = some (.int .i64 a.s.kind) /\ w'.cell? ⟨w.heap.size, 1, none⟩ = some (.string (B a.s.text)) /\ w'.cell? ⟨w.heap.size, 2, none⟩ = some (.string (B a.s.type)) /\ w'.cell? ⟨w.heap.size, 3, none⟩ = some (.string (B a.s.lang)) /\ w'.cell? ⟨w.heap.size, 4, none⟩ = some (.int .i64 a.p.kind) /\ w'.cell? ⟨w.heap.size, 5, none⟩ = some (.string (B a.p.text)) /\ w'.cell? ⟨w.heap.size, 6, none⟩ = some (.string (B a.p.type)) /\ w'.cell? ⟨w.heap.size, 7, none⟩ = some (.string (B a.p.lang)) /\ w'.cell? ⟨w.heap.size, 8, none⟩ = some (.int .i64 a.o.kind) /\ w'.cell? ⟨w.heap.size, 9, none⟩ = some (.string (B a.o.text)) /\ w'.cell? ⟨w.heap.size, 10, none⟩ = some (.string (B a.o.type)) /\ w'.cell? ⟨w.heap.size, 11, none⟩ = some (.string (B a.o.lang)) /\ w'.cell? ⟨w.heap.size, 12, none⟩ = some (.int .i64 a.g.kind) /\ w'.cell? ⟨w.heap.size, 13, none⟩ = some (.string (B a.g.text)) /\ w'.cell? ⟨w.heap.size, 14, none⟩ = some (.string (B a.g.type)) /\ w'.cell? ⟨w.heap.size, 15, none⟩ = some (.string (B a.g.lang)) /\ w'.cell? ⟨w.heap.size + 1, 0, none⟩ = some (.int .i64 b.s.kind) /\ w'.cell? ⟨w.heap.size + 1, 1, none⟩ = some (.string (B b.s.text)) /\ w'.cell? ⟨w.heap.size + 1, 2, none⟩ = some (.string (B b.s.type)) /\ w'.cell? ⟨w.heap.size + 1, 3, none⟩ = some (.string (B b.s.lang)) /\ w'.cell? ⟨w.heap.size + 1, 4, none⟩ = some (.int .i64 b.p.kind) /\ w'.cell? ⟨w.heap.size + 1, 5, none⟩ = some (.string (B b.p.text)) /\ w'.cell? ⟨w.heap.size + 1, 6, none⟩ = some (.string (B b.p.type)) /\ w'.cell? ⟨w.heap.size + 1, 7, none⟩ = some (.string (B b.p.lang)) /\ w'.cell? ⟨w.heap.size + 1, 8, none⟩ = some (.int .i64 b.o.kind) /\ w'.cell? ⟨w.heap.size + 1, 9, none⟩ = some (.string (B b.o.text)) /\ w'.cell? ⟨w.heap.size + 1, 10, none⟩ = some (.string (B b.o.type)) /\ w'.cell? ⟨w.heap.size + 1, 11, none⟩ = some (.string (B b.o.lang)) /\ w'.cell? ⟨w.heap.size + 1, 12, none⟩ = some (.int .i64 b.g.kind) /\ w'.cell? ⟨w.heap.size + 1, 13, none⟩ = some (.string (B b.g.text)) /\ w'.cell? ⟨w.heap.size + 1, 14, none⟩ = some (.string (B b.g.type)) /\ w'.cell? ⟨w.heap.size + 1, 15, none⟩ = some (.string (B b.g.lang))) := Lib.hid (fun w' h => by
   obtain ⟨h1, h2⟩ := held2 hW h
   exact ⟨h1 0 _ rfl, h1 1 _ rfl, h1 2 _ rfl, h1 3 _ rfl, h1 4 _ rfl, h1 5 _ rfl, h1 6 _ rfl, h1 7 _ rfl, h1 8 _ rfl, h1 9 _ rfl, h1 10 _ rfl, h1 11 _ rfl, h1 12 _ rfl, h1 13 _ rfl, h1 14 _ rfl, h1 15 _ rfl, h2 0 _ rfl, h2 1 _ rfl, h2 2 _ rfl, h2 3 _ rfl, h2 4 _ rfl, h2 5 _ rfl, h2 6 _ rfl, h2 7 _ rfl, h2 8 _ rfl, h2 9 _ rfl, h2 10 _ rfl, h2 11 _ rfl, h2 12 _ rfl, h2 13 _ rfl, h2 14 _ rfl, h2 15 _ rfl⟩)
 have HB7 : Hid (Below W.heap.size W W.drew) := Lib.hid (below_drewN W 1)
 have HD7 : Hid (W.drawn <= W.drew.drawn) := Lib.hid (by simp)
 have HD0 : Hid (w.drawn <= W.drawn) := Lib.hid (by rw [<- hW]; simp)
 have HB0 : Hid (Below w.heap.size w W) := Lib.hid (by rw [<- hW]; exact ((Below.refl _ _).alloc (Nat.le_refl _) _).alloc (by simp) _)
 go_enter Tryz.func61, Tryz.ntmps61
 go_wp2_with fail
 go_region_held3 (fun w' => w'.cell? ⟨w.heap.size, 0, none⟩ = some (.int .i64 a.s.kind) /\ w'.cell? ⟨w.heap.size, 1, none⟩ = some (.string (B a.s.text)) /\ w'.cell? ⟨w.heap.size, 2, none⟩ = some (.string (B a.s.type)) /\ w'.cell? ⟨w.heap.size, 3, none⟩ = some (.string (B a.s.lang)) /\ w'.cell? ⟨w.heap.size, 4, none⟩ = some (.int .i64 a.p.kind) /\ w'.cell? ⟨w.heap.size, 5, none⟩ = some (.string (B a.p.text)) /\ w'.cell? ⟨w.heap.size, 6, none⟩ = some (.string (B a.p.type)) /\ w'.cell? ⟨w.heap.size, 7, none⟩ = some (.string (B a.p.lang)) /\ w'.cell? ⟨w.heap.size, 8, none⟩ = some (.int .i64 a.o.kind) /\ w'.cell? ⟨w.heap.size, 9, none⟩ = some (.string (B a.o.text)) /\ w'.cell? ⟨w.heap.size, 10, none⟩ = some (.string (B a.o.type)) /\ w'.cell? ⟨w.heap.size, 11, none⟩ = some (.string (B a.o.lang)) /\ w'.cell? ⟨w.heap.size, 12, none⟩ = some (.int .i64 a.g.kind) /\ w'.cell? ⟨w.heap.size, 13, none⟩ = some (.string (B a.g.text)) /\ w'.cell? ⟨w.heap.size, 14, none⟩ = some (.string (B a.g.type)) /\ w'.cell? ⟨w.heap.size, 15, none⟩ = some (.string (B a.g.lang)) /\ w'.cell? ⟨w.heap.size + 1, 0, none⟩ = some (.int .i64 b.s.kind) /\ w'.cell? ⟨w.heap.size + 1, 1, none⟩ = some (.string (B b.s.text)) /\ w'.cell? ⟨w.heap.size + 1, 2, none⟩ = some (.string (B b.s.type)) /\ w'.cell? ⟨w.heap.size + 1, 3, none⟩ = some (.string (B b.s.lang)) /\ w'.cell? ⟨w.heap.size + 1, 4, none⟩ = some (.int .i64 b.p.kind) /\ w'.cell? ⟨w.heap.size + 1, 5, none⟩ = some (.string (B b.p.text)) /\ w'.cell? ⟨w.heap.size + 1, 6, none⟩ = some (.string (B b.p.type)) /\ w'.cell? ⟨w.heap.size + 1, 7, none⟩ = some (.string (B b.p.lang)) /\ w'.cell? ⟨w.heap.size + 1, 8, none⟩ = some (.int .i64 b.o.kind) /\ w'.cell? ⟨w.heap.size + 1, 9, none⟩ = some (.string (B b.o.text)) /\ w'.cell? ⟨w.heap.size + 1, 10, none⟩ = some (.string (B b.o.type)) /\ w'.cell? ⟨w.heap.size + 1, 11, none⟩ = some (.string (B b.o.lang)) /\ w'.cell? ⟨w.heap.size + 1, 12, none⟩ = some (.int .i64 b.g.kind) /\ w'.cell? ⟨w.heap.size + 1, 13, none⟩ = some (.string (B b.g.text)) /\ w'.cell? ⟨w.heap.size + 1, 14, none⟩ = some (.string (B b.g.type)) /\ w'.cell? ⟨w.heap.size + 1, 15, none⟩ = some (.string (B b.g.lang))) (first | exact SB.out _ HB7.out | exact SB.out _ (HB7.out.alloc HB7.out.size _))
   (first | (go_at_call 96; (with_reducible refine (CT.out _ _ _).mono ?_); rintro e w7 ⟨rfl, hb7, hd7⟩; have HB8 := Lib.hid (HB7.out.trans (hb7.mono HB7.out.size)); have HD8 := Lib.hid (Nat.le_trans HD7.out hd7); clear HB7 hb7 HD7 hd7; have HB7 := HB8; have HD7 := HD8; clear HB8 HD8) | (go_at_call 95; (with_reducible refine (OR.out _ _ ?c0 ?c1 ?c2 ?c3).mono ?_); (case c0 => go_simp); (case c1 => go_simp); (case c2 => go_simp); (case c3 => go_simp); rintro e w8 ⟨rfl, rfl⟩))
 go_wp2_with fail
 go_ret
 exact ⟨ret_i64 HE.out.symm, HB0.out.trans ((HB7.out.alloc HB7.out.size _).mono HB0.out.size), Nat.le_trans HD0.out HD7.out⟩
end Go.Proofs.YtmnigckpejcaeaaGreatDoor
namespace Go.Proofs.YtmnigckpejcaeaaGreatDoor
open Go.RowKit
set_option maxRecDepth 100000
instance : Inhabited QuadL := ⟨⟨noTerm, noTerm, noTerm, noTerm⟩⟩
theorem ltQ (x y : QuadL) : ltOf cmpQ x y = decide (cmpQ x y < 0) := rfl
theorem swoQ : Go.Sort.SWO (ltOf cmpQ) where
 irrefl x := by rw [ltQ, cmpQ_self]; rfl
 trans x y z h1 h2 := by
   rw [ltQ, decide_eq_true_eq] at *
   exact cmpQ_trans h1 h2
 ntrans x y z h1 h2 := by
   rw [ltQ, decide_eq_false_iff_not] at *
   intro h3
   by_cases e1 : cmpQ x y = 0
   · obtain rfl := cmpQ_zero.1 e1
     exact h2 h3
   by_cases e2 : cmpQ y z = 0
   · obtain rfl := cmpQ_zero.1 e2
     exact h1 h3
   have s1 := cmpQ_swap x y
   have s2 := cmpQ_swap y z
   have s3 := cmpQ_swap x z
   have := cmpQ_trans (a := z) (b := y) (c := x) (by omega) (by omega)
   omega
theorem sorted_set {l : List QuadL} (hn : l.Nodup) {d' : Array QuadL} (hp : Go.Sort.PermIn 0 l.toArray.size l.toArray d') (hs : Go.Sort.SortedIn (ltOf cmpQ) 0 l.toArray.size d') : d'.toList = setQ l := by
 obtain ⟨h1, _, h3⟩ := hp
 have hperm : d'.toList.Perm l := by
   have e1 : d'.extract 0 l.toArray.size = d' := by rw [<- h1]; exact Array.extract_size
   have e2 : l.toArray.extract 0 l.toArray.size = l.toArray := Array.extract_size
   rw [e1, e2] at h3
   exact h3
 refine setQ_unique ?_ (fun x => hperm.mem_iff)
 unfold Rise
 rw [List.pairwise_iff_getElem]
 intro i j hi hj hij
 have hj2 : j < d'.size := by simpa using hj
 have hi2 : i < d'.size := by simpa using hi
 have h4 := hs i j (Nat.zero_le _) hij (by rw [<- h1]; exact hj2)
 rw [ltQ, decide_eq_false_iff_not, getElem!_pos d' j hj2, getElem!_pos d' i hi2] at h4
 have s := cmpQ_swap (d'[i]) (d'[j])
 have hne : cmpQ d'[i] d'[j] ≠ 0 := fun e => by
   have e2 := cmpQ_zero.1 e
   have hnd : d'.toList.Nodup := hperm.nodup_iff.2 hn
   exact (List.pairwise_iff_getElem.1 hnd) i j hi hj hij (by simpa using e2)
 show cmpQ d'.toList[i] d'.toList[j] < 0
 rw [Array.getElem_toList, Array.getElem_toList]
 omega
def QHold (w : World) (g : Nat) (l : List QuadL) : Prop := Go.Sort.HoldsK quadC 16 w g 0 l.toArray
theorem qhold_iff (w : World) (g : Nat) (l : List QuadL) : QHold w g l ↔ ∀ j (h : j < (quadsC l).length), w.cell? ⟨g, j, none⟩ = some (quadsC l)[j] /\ w.frozen? ⟨g, j, none⟩ = false := by
 unfold QHold Go.Sort.HoldsK Go.Sort.Holds
 have hl := quadsC_len l
 have key : ∀ j, j < l.length * 16 -> (Go.Sort.flatK quadC 16 l.toArray)[j]! = (quadsC l)[j]! := fun j hj => by
   rw [Go.Sort.get_flatK _ _ _ _ (by simpa using hj)]
   have hk : j / 16 < l.length := by omega
   have h16 : j % 16 < 16 := by omega
   have := quadsC_get l (j / 16) hk (j % 16) h16
   rw [show j / 16 * 16 + j % 16 = j by omega] at this
   rw [getElem!_pos l.toArray (j / 16) (by simpa using hk), List.getElem!_eq_getElem?_getD, List.getElem!_eq_getElem?_getD, this]
   rfl
 constructor
 · intro h j hj
   rw [hl] at hj
   have := h j (by simpa using hj)
   rw [Nat.zero_add, key j hj, getElem!_pos (quadsC l) j (by rw [hl]; exact hj)] at this
   exact this
 · intro h j hj
   have hj2 : j < l.length * 16 := by simpa using hj
   have := h j (by rw [hl]; exact hj2)
   rw [Nat.zero_add, key j hj2, getElem!_pos (quadsC l) j (by rw [hl]; exact hj2)]
   exact this
theorem QHold.at {w : World} {g : Nat} {l : List QuadL} (h : QHold w g l) : QAt w (some ⟨g, 0, none⟩) l := fun j hj => by
 refine ⟨g, 0, rfl, ?_⟩
 rw [Nat.zero_add]
 exact ((qhold_iff w g l).1 h j hj).1
theorem QOwn.hold {base g cap n : Nat} {l : List QuadL} {w : World} (h : QOwn base (.slice (some ⟨g, 0, none⟩) n cap) l w) : QHold w g l := by
 refine (qhold_iff w g l).2 (fun j hj => ?_)
 have h1 := h.cells (g := g) rfl j (quadsC l)[j] (List.getElem?_eq_getElem hj)
 rw [add0] at h1
 refine ⟨h1, ?_⟩
 rcases h.2 with ⟨h2, _⟩ | ⟨g', cap', cur, h2, _, h3, _⟩
 · cases h2
 · cases h2
   simp [World.frozen?, h3]
theorem QHold.below {w w' : World} {g : Nat} {l : List QuadL} (h : QHold w g l) (hb : Below w.heap.size w w') (hg : g < w.heap.size) : QHold w' g l := (qhold_iff w' g l).2 (fun j hj => by
 have := (qhold_iff w g l).1 h j hj
 have e := hb.block g hg
 refine ⟨?_, ?_⟩
 · rw [World.cell?_of_block e]; exact this.1
 · simp only [World.frozen?] at this ⊢; rw [e]; exact this.2)
theorem below_sortW {w : World} {g m : Nat} {d : Array QuadL} {os : Array Obj} (hg : g < w.heap.size) : Below g w (sortWorldK quadC 16 w g 0 m d os) := by
 refine ⟨rfl, rfl, rfl, size_sortWorldK_c _ _ _ _ _ _ _ _, fun k hk => ?_⟩
 unfold sortWorldK
 rw [Go.Sort.heap_grow_old _ _ (by rw [Go.Sort.size_putRowK]; exact Nat.lt_trans hk hg)]
 unfold Go.Sort.putRowK Go.Sort.putRow Go.Sort.mapBlock
 simp only [Array.getElem?_modify]
 rw [if_neg (by omega)]
 rfl
theorem cmpLays (blk off size : Nat) (w : World) : CmpLays Tryz.prog 61 #[] quadC 16 cmpQ blk off size w :=
 fun _ _ _ _ x y => (compareQuads_d x y _).mono fun _ _ ⟨he, hb, hd⟩ => ⟨he, grown_of hb hd⟩
end Go.Proofs.YtmnigckpejcaeaaGreatDoor
namespace Go.Proofs.YtmnigckpejcaeaaGreatDoor
open Go.RowKit Go.Shelf
set_option maxRecDepth 100000
def sortRen : Go.Shelf.Ren := ⟨fun | 6 => 92 | 14 => 124 | 15 => 125 | 20 => 155 | 21 => 156 | 22 => 157 | 23 => 158 | 24 => 159 | 25 => 160 | 26 => 161 | 27 => 162 | 28 => 163 | 29 => 164 | 46 => 201 | 47 => 202 | 48 => 203 | 49 => 204 | 50 => 205 | 57 => 236 | n => n, fun | 0 => 0 | 3 => 3 | 4 => 4 | 5 => 5 | 9 => 9 | 22 => 22 | 24 => 56 | 25 => 118 | 39 => 146 | 45 => 227 | 46 => 228 | 50 => 232 | 53 => 173 | 55 => 236 | 66 => 264 | 70 => 268 | 76 => 283 | 77 => 94 | n => n, fun | n => n⟩
theorem sortLays : Go.Proofs.SlLaysF0.n6 Tryz.prog sortRen := {
 mixed := by kernel_rfl
 f6 := ⟨Tryz.f92.name, by kernel_rfl, Tryz.func92.trans (congrArg some (by kernel_rfl))⟩
 f14 := ⟨Tryz.f124.name, by kernel_rfl, Tryz.func124.trans (congrArg some (by kernel_rfl))⟩
 f15 := Tryz.func125.trans (congrArg some (by kernel_rfl))
 f20 := ⟨Tryz.f155.name, by kernel_rfl, Tryz.func155.trans (congrArg some (by kernel_rfl))⟩
 f21 := ⟨Tryz.f156.name, by kernel_rfl, Tryz.func156.trans (congrArg some (by kernel_rfl))⟩
 f22 := ⟨Tryz.f157.name, by kernel_rfl, Tryz.func157.trans (congrArg some (by kernel_rfl))⟩
 f23 := ⟨Tryz.f158.name, by kernel_rfl, Tryz.func158.trans (congrArg some (by kernel_rfl))⟩
 f24 := ⟨Tryz.f159.name, by kernel_rfl, Tryz.func159.trans (congrArg some (by kernel_rfl))⟩
 f25 := ⟨Tryz.f160.name, by kernel_rfl, Tryz.func160.trans (congrArg some (by kernel_rfl))⟩
 f26 := ⟨Tryz.f161.name, by kernel_rfl, Tryz.func161.trans (congrArg some (by kernel_rfl))⟩
 f27 := ⟨Tryz.f162.name, by kernel_rfl, Tryz.func162.trans (congrArg some (by kernel_rfl))⟩
 f28 := Tryz.func163.trans (congrArg some (by kernel_rfl))
 f29 := Tryz.func164.trans (congrArg some (by kernel_rfl))
 f46 := ⟨Tryz.f201.name, by kernel_rfl, Tryz.func201.trans (congrArg some (by kernel_rfl))⟩
 f47 := Tryz.func202.trans (congrArg some (by kernel_rfl))
 f48 := Tryz.func203.trans (congrArg some (by kernel_rfl))
 f49 := ⟨Tryz.f204.name, by kernel_rfl, Tryz.func204.trans (congrArg some (by kernel_rfl))⟩
 f50 := ⟨Tryz.f205.name, by kernel_rfl, Tryz.func205.trans (congrArg some (by kernel_rfl))⟩
 f57 := ⟨Tryz.f236.name, by kernel_rfl, Tryz.func236.trans (congrArg some (by kernel_rfl))⟩
 t0 := Tryz.underlying0
 a0 := Tryz.isAgg0
 z0 := Tryz.sizeOf0
 v0 := Tryz.zeroValue0
 t3 := Tryz.underlying3
 a3 := Tryz.isAgg3
 z3 := Tryz.sizeOf3
 v3 := Tryz.zeroValue3
 t4 := Tryz.underlying4
 a4 := Tryz.isAgg4
 z4 := Tryz.sizeOf4
 v4 := Tryz.zeroValue4
 t5 := Tryz.underlying5
 a5 := Tryz.isAgg5
 z5 := Tryz.sizeOf5
 v5 := Tryz.zeroValue5
 t9 := Tryz.underlying9
 a9 := Tryz.isAgg9
 z9 := Tryz.sizeOf9
 v9 := Tryz.zeroValue9
 t22 := Tryz.underlying22
 a22 := Tryz.isAgg22
 z22 := Tryz.sizeOf22
 v22 := Tryz.zeroValue22
 t25 := Tryz.underlying118
 a25 := Tryz.isAgg118
 z25 := Tryz.sizeOf118
 v25 := Tryz.zeroValue118
 t39 := Tryz.underlying146
 a39 := Tryz.isAgg146
 z39 := Tryz.sizeOf146
 v39 := Tryz.zeroValue146
 t45 := Tryz.underlying227
 a45 := Tryz.isAgg227
 z45 := Tryz.sizeOf227
 v45 := Tryz.zeroValue227
 t46 := Tryz.underlying228
 a46 := Tryz.isAgg228
 z46 := Tryz.sizeOf228
 v46 := Tryz.zeroValue228
 t50 := Tryz.underlying232
 a50 := Tryz.isAgg232
 z50 := Tryz.sizeOf232
 v50 := Tryz.zeroValue232
 t53 := Tryz.underlying173
 a53 := Tryz.isAgg173
 z53 := Tryz.sizeOf173
 v53 := Tryz.zeroValue173
 t55 := Tryz.underlying236
 a55 := Tryz.isAgg236
 z55 := Tryz.sizeOf236
 v55 := Tryz.zeroValue236
 t66 := Tryz.underlying264
 a66 := Tryz.isAgg264
 z66 := Tryz.sizeOf264
 v66 := Tryz.zeroValue264
 t70 := Tryz.underlying268
 a70 := Tryz.isAgg268
 z70 := Tryz.sizeOf268
 v70 := Tryz.zeroValue268
 t76 := Tryz.underlying283
 a76 := Tryz.isAgg283
 z76 := Tryz.sizeOf283
 v76 := Tryz.zeroValue283
 t77 := Tryz.underlying94
 a77 := Tryz.isAgg94
 z77 := Tryz.sizeOf94
 v77 := Tryz.zeroValue94 }
def cloneRen : Go.Shelf.Ren := ⟨fun | 41 => 91 | n => n, fun | 4 => 4 | 22 => 22 | 23 => 56 | n => n, fun | n => n⟩
theorem cloneLays : Go.Proofs.SlLaysE0.n41 Tryz.prog cloneRen := {
 mixed := by kernel_rfl
 f41 := ⟨Tryz.f91.name, by kernel_rfl, Tryz.func91.trans (congrArg some (by kernel_rfl))⟩
 t4 := Tryz.underlying4
 a4 := Tryz.isAgg4
 z4 := Tryz.sizeOf4
 v4 := Tryz.zeroValue4
 t22 := Tryz.underlying22
 a22 := Tryz.isAgg22
 z22 := Tryz.sizeOf22
 v22 := Tryz.zeroValue22 }
end Go.Proofs.YtmnigckpejcaeaaGreatDoor
namespace Go.Proofs.YtmnigckpejcaeaaGreatDoor
open Go.RowKit
set_option maxRecDepth 100000
theorem sortFunc_l (l : List QuadL) (g cap : Nat) (w : World) (hH : QHold w g l) (hg : g < w.heap.size) (hn : l.Nodup) (hl : l.length <= 4194304) :
   Calls Tryz.prog 92 #[.slice (some ⟨g, 0, none⟩) l.length cap, .func (.func 61) #[] #[]] w fun e w' => e = .returned (.tuple #[]) /\ QHold w' g (setQ l) /\ Below g w w' := by
 have eg : ∀ args w, (callFunc 61 args).run Tryz.prog w = .ok (.enter 61 args) w := enters_of Tryz.func61 (by kernel_rfl) rfl
 have h := AnyQ.slices_SortFunc sortLays 16 Tryz.isAgg56 Tryz.sizeOf56 quadC quadC_len oneCell_quad cmpQ swoQ 61 #[] g 0 cap l.toArray w eg (cmpLays g 0 _ w) hH hg (by simp; omega)
 refine Calls.mono (show Calls Tryz.prog 92 #[.slice (some ⟨g, 0, none⟩) l.length cap, .func (.func 61) #[] #[]] w _ from h) ?_
 rintro e w' ⟨rfl, d', n, os, hp, hs, rfl⟩
 have e1 := sorted_set hn hp hs
 have e2 : (setQ l).toArray = d' := by rw [<- e1]
 refine ⟨rfl, ?_, below_sortW hg⟩
 unfold QHold
 rw [e2]
 exact holdsK_sortWorldK_c quadC 16 w g 0 l.toArray d' n os hH hg hp.1
theorem sortFunc_none (p : Option Addr) (cap : Nat) (fv : Value) (w : World) : Calls Tryz.prog 92 #[.slice p 0 cap, fv] w fun e w' => e = .returned (.tuple #[]) /\ w' = w :=
 AnyF.slices_SortFunc_none sortLays p cap fv w
theorem cloneQ_l (l : List QuadL) (v : Value) (w : World) (hV : QView w v l) (hv : 0 < l.length) (hl : l.length <= 4194304) :
   Calls Tryz.prog 91 #[v] w fun e w' => ∃ g cap, e = .returned (.slice (some ⟨g, 0, none⟩) l.length cap) /\ w.heap.size <= g /\ g < w'.heap.size /\ QHold w' g l /\ l.length <= cap /\ Below w.heap.size w w' := by
 obtain ⟨a, c, rfl, hc, hQ⟩ := hV
 obtain ⟨b, o, rfl⟩ := hQ.place hv
 obtain ⟨i0, hi, hz0, hz1, hz2⟩ := info_parts infoQ
 have h := AnyE.slices_Clone cloneLays i0 _ 16 224 hi hz0 hz1 hz2 rfl (by decide) Tryz.sizeOf56 b o l.length c (quadsC l) w (quadsC_len l) (by unfold maxLen; omega) (by omega) (fun j u hj => by
   obtain ⟨h1, h2⟩ := List.getElem?_eq_some_iff.1 hj
   rw [<- h2]
   exact At.get hQ h1) (oneCell_quads l)
 refine Calls.mono (show Calls Tryz.prog 91 #[.slice (some ⟨b, o, none⟩) l.length c] w _ from h) ?_
 rintro e w' ⟨v', rfl, hO, _, hB⟩
 have hO' : QOwn w.heap.size v' l w' := hO
 rcases hO'.2 with ⟨h1, h2⟩ | ⟨g, cap, cur, rfl, h1, h3, h4, _⟩
 · exact absurd h2 (by omega)
 · exact ⟨g, cap, rfl, h1, (Array.getElem?_eq_some_iff.1 h3).1, hO'.hold, h4, hB⟩
theorem clone_nil (n c : Nat) (w : World) : Calls Tryz.prog 91 #[.slice none n c] w fun e w' => e = .returned (.slice none 0 0) /\ w' = w := AnyE.slices_Clone_nil cloneLays n c w
set_option maxHeartbeats 400000 in
theorem clip_l (a : Option Addr) (n c : Nat) (w : World) (hc : n <= c) (hn : n <= 4194304) :
   Calls Tryz.prog 93 #[.slice a n c] w fun e w' => e = .returned (.slice a n n) /\ w' = w := by
 have c1 : (0 : Int) <= (n : Int) := by omega
 have c2 : (n : Int) <= (c : Int) := by omega
 go_enter Tryz.func93, Tryz.ntmps93
 go_wp2_with fail
 go_ret
 exact ⟨rfl, rfl⟩
theorem ne_next {l : List QuadL} (h : Rise l) {m : Nat} (h2 : m + 1 < l.length) : decide (l[m + 1] = l[m]'(by omega)) = false := by
 refine decide_eq_false (fun e => ?_)
 have := (List.pairwise_iff_getElem.1 h) m (m + 1) (by omega) h2 (by omega)
 rw [e, cmpQ_self] at this
 omega
set_option maxHeartbeats 2000000 in
theorem compact_l (l : List QuadL) (g cap : Nat) (w : World) (hH : QHold w g l) (hr : Rise l) (hl : l.length <= 4194304) :
   Calls Tryz.prog 94 #[.slice (some ⟨g, 0, none⟩) l.length cap] w fun e w' => e = .returned (.slice (some ⟨g, 0, none⟩) l.length cap) /\ Below w.heap.size w w' := by
 have HQ := Lib.hid hH.at
 have HR := Lib.hid hr
 have EQ := eql_q
 clear hH hr
 by_cases h2 : l.length < 2
 · have q8 : decide ((l.length : Int) < 2) = true := decide_eq_true (by omega)
   have q9 : decide (l.length < 2) = true := decide_eq_true h2
   clear h2
   go_enter Tryz.func94, Tryz.ntmps94
   go_wp2_with fail
   go_ret
   exact ⟨rfl, Below.refl _ _⟩
 have q8 : decide ((l.length : Int) < 2) = false := decide_eq_false (by omega)
 have q9 : decide (l.length < 2) = false := decide_eq_false h2
 go_enter Tryz.func94, Tryz.ntmps94
 go_wp2_with fail
 go_loopw [3] (fun i wr => ∃ m : Nat, i = .int .i64 ((m : Int) + 1) /\ m <= l.length /\ Below w.heap.size w wr) (fun i _ => l.length + 1 - (intOf i).toNat)
 case atStart => exact ⟨0, rfl, Nat.zero_le _, Below.refl _ _⟩
 case round =>
   obtain ⟨m, rfl, hm, hb⟩ := hrel
   clear q8 q9
   by_cases hlt2 : m + 1 < l.length
   · have hQ2 := HQ.out.below hb
     have r1 := hQ2.get (k := m) (by omega)
     have r2 := hQ2.get (k := m + 1) hlt2
     have NE := ne_next HR.out hlt2
     obtain ⟨x, hx⟩ : ∃ x, l[m] = x := ⟨_, rfl⟩
     obtain ⟨y, hy⟩ : ∃ y, l[m + 1] = y := ⟨_, rfl⟩
     rw [hx, Nat.zero_add] at r1
     rw [hy, Nat.zero_add] at r2
     rw [hx, hy] at NE
     have EQ2 := fun u => EQ y x u
     rw [NE] at EQ2
     obtain ⟨c0, c1, c2, c3, c4, c5, c6, c7, c8, c9, c10, c11, c12, c13, c14, c15⟩ := cells16 r1
     obtain ⟨d0, d1, d2, d3, d4, d5, d6, d7, d8, d9, d10, d11, d12, d13, d14, d15⟩ := cells16 r2
     have BB := Lib.hid hb
     clear hb hQ2 r1 r2 hx hy NE EQ
     as_aux_lemma =>
       have hm2 : m < l.length := by omega
       have hm3 : (0 : Int) <= (m : Int) + 1 := by omega
       have W1 : IntKind.i64.wrap (m : Int) = (m : Int) := IntWalk.i64_in _ (by omega)
       go_wp2_with fail
       refine region_still 9 (by kernel_rfl) (by kernel_rfl) ?_
       simp only [List.take_succ_cons, List.take_zero, List.drop_succ_cons, List.drop_zero]
       repeat still_step
       refine wpStill_nil ?_
       clear W1
       go_wp2_with fail
       go_roundw
       case rel => exact ⟨m + 1, by go_num, by omega, BB.out.drew⟩
       case measure => simp [intOf]; omega
   · as_aux_lemma =>
     have q8 : decide ((m : Int) + 1 < (l.length : Int)) = false := decide_eq_false (by omega)
     have BB := Lib.hid hb
     clear hb EQ
     go_wp2_with fail
     go_ret
     exact ⟨rfl, BB.out⟩
def QFresh (base : Nat) (v : Value) (l : List QuadL) (w : World) : Prop := (l = [] /\ v = .slice none 0 0) \/ ∃ g, base <= g /\ g < w.heap.size /\ v = .slice (some ⟨g, 0, none⟩) l.length l.length /\ QHold w g l
theorem QFresh.view {base : Nat} {v : Value} {l : List QuadL} {w : World} (h : QFresh base v l w) : QView w v l := by
 rcases h with ⟨rfl, rfl⟩ | ⟨g, _, _, rfl, h⟩
 · exact ⟨none, 0, rfl, Nat.le_refl _, QAt.nil _ _⟩
 · exact ⟨_, _, rfl, Nat.le_refl _, h.at⟩
theorem insQ_new (q : QuadL) : ∀ l : List QuadL, q ∉ l -> (insQ q l).length = l.length + 1
 | [], _ => rfl
 | x :: r, h => by
   unfold insQ
   split
   · rfl
   · split
     · next hc => exact absurd (cmpQ_zero.1 hc) (fun e => h (e ▸ List.mem_cons_self ..))
     · rw [List.length_cons, insQ_new q r (fun hm => h (List.mem_cons_of_mem _ hm)), List.length_cons]
theorem setQ_nodup : ∀ {l : List QuadL}, l.Nodup -> (setQ l).length = l.length
 | [], _ => rfl
 | q :: r, h => by
   obtain ⟨h1, h2⟩ := List.nodup_cons.1 h
   have ih := setQ_nodup h2
   have hq : q ∉ setQ r := fun hm => h1 ((mem_setQ r q).1 hm)
   have := insQ_new q (setQ r) hq
   rw [ih] at this
   exact this
set_option maxHeartbeats 1000000 in
theorem sorted_l (l : List QuadL) (v : Value) (w : World) (hV : QView w v l) (hv : l = [] -> v = .slice none 0 0) (hn : l.Nodup) (hl : l.length <= 4194304) :
   Calls Tryz.prog 60 #[v, .func (.func 61) #[] #[]] w fun e w' => ∃ v', e = .returned v' /\ QFresh w.heap.size v' (setQ l) w' /\ Below w.heap.size w w' := by
 by_cases h0 : l = []
 · obtain rfl := h0
   obtain rfl := hv rfl
   have CL := Lib.hid (clone_nil 0 0 w)
   have SF := Lib.hid (sortFunc_none none 0 (.func (.func 61) #[] #[]) w)
   have CP : Hid (Calls Tryz.prog 94 #[.slice none 0 0] w fun e w' => e = .returned (.slice none 0 0) /\ w' = w) := Lib.hid (by
     go_enter Tryz.func94, Tryz.ntmps94
     go_wp2_with fail
     go_ret
     exact ⟨rfl, rfl⟩)
   have CI := Lib.hid (clip_l none 0 0 w (Nat.le_refl _) (by omega))
   clear hV hn hl
   go_enter Tryz.func60, Tryz.ntmps60
   go_wp2_with (first
     | (go_at_call 91; (with_reducible refine CL.out.mono ?_); rintro e w2 ⟨rfl, hw⟩; rw [hw]; clear hw)
     | (go_at_call 92; (with_reducible refine SF.out.mono ?_); rintro e w2 ⟨rfl, hw⟩; rw [hw]; clear hw)
     | (go_at_call 94; (with_reducible refine CP.out.mono ?_); rintro e w2 ⟨rfl, hw⟩; rw [hw]; clear hw)
     | (go_at_call 93; (with_reducible refine CI.out.mono ?_); rintro e w2 ⟨rfl, hw⟩; rw [hw]; clear hw))
   go_ret
   exact ⟨_, rfl, .inl ⟨rfl, rfl⟩, Below.refl _ _⟩
 have hlen : 0 < l.length := List.length_pos_iff.2 h0
 have CL := Lib.hid (cloneQ_l l v w hV hlen hl)
 have SF := Lib.hid (fun (g cap : Nat) (u : World) (h1 : QHold u g l) (h2 : g < u.heap.size) => sortFunc_l l g cap u h1 h2 hn hl)
 have e2 := setQ_nodup hn
 have CP := Lib.hid (fun (g cap : Nat) (u : World) (h1 : QHold u g (setQ l)) => compact_l (setQ l) g cap u h1 (setQ_rise l) (by omega))
 rw [e2] at CP
 have E2 := Lib.hid e2
 clear e2 hV hn hv h0
 go_enter Tryz.func60, Tryz.ntmps60
 go_wp2_with (first
   | (go_at_call 91; (with_reducible refine CL.out.mono ?_); rintro e w2 ⟨g, cap, rfl, hg, hgs, hH, hcap, hb2⟩; have HB2 := Lib.hid hb2; have HH := Lib.hid hH; have HG := Lib.hid hg; have HS := Lib.hid hgs; have CI := Lib.hid (fun (u : World) => clip_l (some ⟨g, 0, none⟩) l.length cap u hcap hl); clear hb2 hH hg hgs hcap)
   | (go_at_call 92; (with_reducible refine (SF.out _ _ _ HH.out HS.out).mono ?_); rintro e w3 ⟨rfl, hH3, hb3⟩; have HB3 := Lib.hid (HB2.out.trans (hb3.mono HG.out)); have HH3 := Lib.hid hH3; have HS3 := Lib.hid (Nat.lt_of_lt_of_le HS.out hb3.size); clear hb3 hH3)
   | (go_at_call 94; (with_reducible refine (CP.out _ _ _ HH3.out).mono ?_); rintro e w4 ⟨rfl, hb4⟩; have HB4 := Lib.hid (HB3.out.trans (hb4.mono HB3.out.size)); have HH4 := Lib.hid (HH3.out.below hb4 HS3.out); have HS4 := Lib.hid (Nat.lt_of_lt_of_le HS3.out hb4.size); clear hb4)
   | (go_at_call 93; (with_reducible refine (CI.out _).mono ?_); rintro e w5 ⟨rfl, hw⟩; rw [hw]; clear hw))
 go_ret
 exact ⟨_, rfl, .inr ⟨g, HG.out, HS4.out, (by rw [E2.out]; rfl), HH4.out⟩, HB4.out⟩
theorem termSort_l (l : List QuadL) (v : Value) (w : World) (hV : QView w v l) (hv : l = [] -> v = .slice none 0 0) (hn : l.Nodup) (hl : l.length <= 4194304) :
   Calls Tryz.prog 30 #[v] w fun e w' => ∃ v', e = .returned v' /\ QFresh w.heap.size v' (setQ l) w' /\ Below w.heap.size w w' := by
 have R := Lib.hid (sorted_l l v w hV hv hn hl)
 clear hV hv hn
 go_enter Tryz.func30, Tryz.ntmps30
 go_wp2_with (go_at_call 60; (with_reducible refine R.out.mono ?_); rintro e w3 ⟨v', rfl, h1, h2⟩)
 go_ret
 exact ⟨_, rfl, h1, h2⟩
end Go.Proofs.YtmnigckpejcaeaaGreatDoor
